/- Texts. -/
import Derived.Attr
import Derived.IntWalk
import Derived.Test.YtkdnmldmffkkoaaGreatDoorProg
import Derived.KernelRfl
import Derived.Lib.Hide
import Derived.Test.YtkdnmldmffkkoaaGreatDoorP03
set_option linter.all false
set_option maxRecDepth 100000
namespace Go.Ev
noncomputable section
section
variable {P : Program} {c : Cx} {σ τ υ : Sg} {h g f : Tr ABlk} {nx ny nz sz : Nat} {ds : List DE} {w x y : World} {tm : Tr AV} {a : Act} {G : Gl}
def putP:List Tmp→List AV→Tr AV→Tr AV
 |t::ps,v::vs,tm=>putP ps vs (tm.put t (some v))
 |_,_,tm=>tm
def zEz:∀{ps:List Tmp}{vs:List AV}{VS:List Value}{tm:Tr AV}{T:Array Value},aC σ vs VS→(∀t∈ps,t<T.size)→(∀t v,tm.get t=some v→av σ v (T.getD t undef))→
  ((ps.zip VS).foldl (fun T (p:Tmp×Value)=>T.setIfInBounds p.1 p.2) T).size=T.size∧∀t v,(putP ps vs tm).get t=some v→av σ v (((ps.zip VS).foldl (fun T (p:Tmp×Value)=>T.setIfInBounds p.1 p.2) T).getD t undef)
 |[],vs,VS,tm,T,_,_,ht=>by
  cases vs <;> exact⟨rfl,ht⟩
 |t::ps,[],VS,tm,T,hr,_,ht=>by
  simp only[aC]at hr;subst hr;exact⟨rfl,ht⟩
 |t::ps,v::vs,VS,tm,T,hr,hs,ht=>by
  simp only[aC]at hr;obtain⟨V,VS',e,h1,h2⟩:=hr;subst e;have e9:t<T.size:=hs t (by simp);have:=zEz (ps:=ps) (tm:=tm.put t (some v)) (T:=T.setIfInBounds t V) h2 (fun u hu=>by simp;exact hs u (by simp[hu])) (fun u z hz=>by
   rw[Tr.get_put]at hz
   by_cases e:u=t
   ·subst e;rw[if_pos rfl]at hz;cases hz;simpa[Array.getD_eq_getD_getElem?,e9]using h1
   ·rw[if_neg e]at hz;have:=ht u z hz;simpa[Array.getD_eq_getD_getElem?,Array.getElem?_setIfInBounds,Ne.symm e]using this)
  refine⟨?_,?_⟩
  ·simpa using this.1
  ·simpa[putP]using this.2
def R0 (i:Nat)(K:AV→Tr ABlk→Nat→Prop):AX→AS→Prop
 |k,.mk _ h nx _=>∃st bh fn sz tm ps x y db,h.get i=some (.loop st bh fn sz tm ps x y db)∧match k with
  |.norm=>K (.bool true) (h.put i (some (.loop .ready none fn sz tm ps x y db))) nx
  |.ret=>K (.bool false) (h.put i (some (.loop .done (some .ret) fn sz tm ps x y db))) nx
  |.exit id=>K (.bool false) (h.put i (some (.loop .done (some (.exit id)) fn sz tm ps x y db))) nx
def zL3 (P:Program)(c:Cx) (sz i:Nat)(body:Code)(K:AV→Tr ABlk→Nat→Prop):AX→AS→Prop
 |.norm,.mk tm h nx ds=>∃bh fn Dv fL ps x y db,h.get i=some (.loop .ready bh fn Dv fL ps x y db)∧AW P c true sz body (R0 i K) (.mk tm (h.put i (some (.loop .busy bh fn Dv fL ps x y db))) nx ds)
 |_,_=>False
def Ok.loop (hk:Ok G σ h nx w){i st bh fn sz fL ps x y db}(hi:h.get i=some (.loop st bh fn sz fL ps x y db)):∃b T d oN,σ.blk i=some b∧w.heap[b]?=some (.loop ⟨st,bh,oN,T,ps,x,y,d⟩)∧T.size=sz∧(∀t v,fL.get t=some v→av σ v (T.getD t undef))∧σ.blk db=some d:=by
 obtain⟨b,o,hb,ho,hr⟩:=hk.blk i _ hi;simp only[cq]at hr;obtain⟨T,d,oN,e,h1,h2,h3⟩:=hr;subst e;exact⟨b,T,d,oN,hb,ho,h1,h2,h3⟩
def Post.setLoop (hk:Ok G σ h nx w){i b st bh fn fn0 sz fL ps x y db T d}(hi:h.get i=some (.loop st bh fn sz fL ps x y db))(hb:σ.blk i=some b)(ho:w.heap[b]?=some (.loop ⟨st,bh,fn0,T,ps,x,y,d⟩))(rq:LoopState)(yS:Option Code):
  Post G σ h nx w σ (h.put i (some (.loop rq yS fn sz fL ps x y db))) nx (w.putObj b (.loop ⟨rq,yS,fn0,T,ps,x,y,d⟩)):=by
 refine Post.set hk hi hb _ _ ?_;obtain⟨b',T',d',oN,aV,fJ,h1,h2,h3⟩:=hk.loop hi;rw[hb]at aV;cases aV;rw[ho]at fJ;cases fJ;simp only[cq];exact⟨T,d,fn0,rfl,h1,h2,h3⟩
def Kg {i:Nat}{bh fn fL ps assign body db}(hi:h.get i=some (.loop .ready bh fn sz fL ps assign body db)){args:List AV}(hlen:args.length=ps.size)(hps:∀t∈ps.toList,t<sz){K:AV→Tr ABlk→Nat→Prop}
  (hw:AW P c true sz assign (zL3 P c sz i body K) (.mk (putP ps.toList args fL) h nx [])):ui P c i args h nx K:=by
 intro σ w A l hk hA hl;obtain⟨b,T,d,oN,hb,ho,hT,hTr,hdb⟩:=hk.loop hi;rw[hl]at hb;cases hb;have Um:=hA.length;refine⟨oN,_,assign,body,run_yield ho (by simp;omega),?_⟩;refine roundIn_of_wpIn (F:=Fence.wide) (n:=0) trivial ?_;have hz:(Array.zip ps A.toArray).foldl (fun T (p:Tmp×Value)=>T.setIfInBounds p.1 p.2) T=(ps.toList.zip A).foldl (fun T (p:Tmp×Value)=>T.setIfInBounds p.1 p.2) T:=by
  rw[← Array.foldl_toList];simp
 obtain⟨p1,p2⟩:=zEz (T:=T) (tm:=fL) hA (fun t ht=>by rw[hT];exact hps t ht) hTr;have aU:St σ (putP ps.toList args fL) { tmps:=(Array.zip ps A.toArray).foldl (fun T (p:Tmp×Value)=>T.setIfInBounds p.1 p.2) T,defers:=[] } sz []:=by
  rw[hz];exact⟨p2,by rw[p1,hT],rfl⟩
 refine wpIn_mono (hw (some l) (fun e=>by cases e) σ _ w hk aU) fun e a1 w1 q=>?_;obtain⟨k,aZ,g1,n1,ds1,τ,e1,q1,q2,q3⟩:=q;cases k <;> try exact q3.elim
 subst e1;obtain⟨qc,MH,PH,Bs,PB,x1,y1,ME,wC,FL⟩:=q3;obtain⟨b1,T1,d1,qad,tf,AU,_,_,_⟩:=q1.ok.loop wC;have:b1=l:=by
  have:=(q1.le.blk i l hl).1;rw[tf]at this;cases this;rfl
 subst this;refine⟨_,run_beginRound AU rfl,?_⟩;have Bq:=Post.setLoop q1.ok wC tf AU .busy qc;refine wpIn_mono (FL (some b1) (fun e=>by cases e) τ a1 _ Bq.ok q2) fun e2 a2 w2 q'=>?_;obtain⟨k2,xd,g2,n2,ds2,υ,pF,r1,r2,r3⟩:=q';obtain⟨st3,qe,fn3,sz3,tm3,VN,x3,y3,db3,wD,hK⟩:=r3;obtain⟨b3,T3,d3,EW,oS,wQ,_,_,_⟩:=r1.ok.loop wD;have:b3=b1:=by
  have:=(r1.le.blk i b1 (Bq.le.blk i b1 tf).1).1;rw[oS]at this;cases this;rfl
 subst this;have Bt:=(q1.trans Bq).trans r1;cases k2 with
 |norm=>
  subst pF;have pf:=Post.setLoop r1.ok wD oS wQ .ready none;exact⟨_,_,run_endRound none wQ,υ,.bool true,_,n2,by simp only[av];rfl,Bt.trans pf,hK⟩
 |ret=>
  subst pF;have pf:=Post.setLoop r1.ok wD oS wQ .done (some .ret);exact⟨_,_,run_endRound (some .ret) wQ,υ,.bool false,_,n2,by simp only[av];rfl,Bt.trans pf,hK⟩
 |exit id=>
  subst pF;have pf:=Post.setLoop r1.ok wD oS wQ .done (some (.exit id));exact⟨_,_,run_endRound (some (.exit id)) wQ,υ,.bool false,_,n2,by simp only[av];rfl,Bt.trans pf,hK⟩
def Tz (tm:Tr AV)(ds:List DE) (nx:Nat)(Q:AX→AS→Prop):AV→Tr ABlk→Nat→Prop
 |_,g,ny=>∃st bh fn sz fL ps x y db,g.get (nx+1)=some (.loop st bh fn sz fL ps x y db)∧st≠.busy∧match bh with
  |none=>Q .norm (.mk tm (g.put (nx+1) none) ny (.mark nx::ds))
  |some .ret=>Q .ret (.mk tm (g.put (nx+1) none) ny (.mark nx::ds))
  |some (.exit id)=>Q (.exit id) (.mk tm (g.put (nx+1) none) ny (.mark nx::ds))
  |_=>False
def Lf (hc:CxOk P c){go:Operand}{ps:Array Tmp}{assign body:Code}{Q:AX→AS→Prop}{fid:FuncId}{first cap:List AV}{MI:Func}(bO:c.ft.get fid=some MI)(hg:aL c.G tm go=some (.func fid first cap))
  {fn0:FuncId} (hw:bf P c fid (first++([.yld (nx+1)]++cap)) ((h.put nx (some .dfr)).put (nx+1) (some (.loop .ready none fn0 sz tm ps assign body nx))) (nx+1+1) (Tz tm ds nx Q)):
  AW P c false sz (.rangeFunc go ps assign body) Q (.mk tm h nx ds):=by
 intro r hr σ a w ok st;obtain rfl:=hr rfl;simp only[AS.tm,AS.h,AS.nx,AS.ds]at ok st;obtain⟨_,bu⟩:=hc.ft fid MI bO;refine wpIn_rangeFunc fun fn _=>?_;have yz:=kH ok st.tm hg;simp only[av]at yz;obtain⟨F,C,e1,r1,r2⟩:=yz;have pa:=Post.alloc ok 0 .dfr (.deferred (some [])) (by simp only[cq]);have wJ:(σ.add nx w.heap.size 0).blk nx=some w.heap.size:=by simp[Sg.add]
 have pb:=Post.alloc pa.ok 0 (.loop .ready none fn0 sz tm ps assign body nx) (.loop ⟨.ready,none,fn,a.tmps,ps,assign,body,w.heap.size⟩) (by
  simp only[cq];refine⟨a.tmps,w.heap.size,fn,rfl,st.size,fun t v ht=>?_,?_⟩
  ·exact((st.tm t v ht).mono pa.le).mono (Sg.add_le (pa.ok.fresh _ (ae _)))
  ·simp[Sg.add])
 have pp:=pa.trans pb;have mo:({ w with heap:=w.heap.push (.deferred (some [])) }:World).heap.size=w.heap.size+1:=by simp
 have Gr:((σ.add nx w.heap.size 0).add (nx+1) (w.heap.size+1) 0).blk (nx+1)=some (w.heap.size+1):=by simp[Sg.add]
 have qU:((σ.add nx w.heap.size 0).add (nx+1) (w.heap.size+1) 0).blk nx=some w.heap.size:=by simp[Sg.add]
 rw[mo]at pb pp;have Pp:av ((σ.add nx w.heap.size 0).add (nx+1) (w.heap.size+1) 0) (.yld (nx+1)) (.func (.yield (w.heap.size+1)) #[] #[]):=by
  simp only[av];exact⟨_,Gr,rfl⟩
 have hinv:∀W:World,(invoke (Target.fn (.func fid) C.toArray) (F.toArray++#[.func (.yield (w.heap.size+1)) #[] #[]])).run P W=.ok (.enter fid (F.toArray++#[.func (.yield (w.heap.size+1)) #[] #[]]++C.toArray)) W:=fun W=>bu _ W;have aH:∀W:World,(resolve a.eval (rangeCall go (w.heap.size+1)) 0).run P W=.ok { target:=.fn (.func fid) C.toArray,args:=F.toArray++#[.func (.yield (w.heap.size+1)) #[] #[]] } W:=by
  intro W;show (Deferred.ofValue (a.eval go) (#[Operand.const (.func (.yield (w.heap.size+1)) #[] #[])].map a.eval)).run P _=_;have wN:(#[Operand.const (.func (.yield (w.heap.size+1)) #[] #[])]:Array Operand).map a.eval=#[.func (.yield (w.heap.size+1)) #[] #[]]:=by simp[Act.eval]
  rw[e1,wN];rfl
 refine⟨_,_,_,_,_,_,_,_,run_enterLoop_outer fn a.tmps ps assign body,aH _,fun _ _=>trivial,hinv _,fun hh=>by simp[dT,Fence.wide]at hh,?_⟩
 ·have uQ:=hw _ _ (F++([.func (.yield (w.heap.size+1)) #[] #[]]++C)) pb.ok ((r1.mono pp.le).append (aC.append (by simp only[aC];exact⟨_,[],rfl,Pp,rfl⟩) (r2.mono pp.le)));unfold CR at uQ;rw[bu]at uQ;simp only at uQ;have nu:(F++([Value.func (.yield (w.heap.size+1)) #[] #[]]++C)).toArray=F.toArray++#[Value.func (.yield (w.heap.size+1)) #[] #[]]++C.toArray:=by
   apply Array.ext';simp
  rw[nu]at uQ;refine HU (Calls.mono uQ fun e x q=>?_);cases e with
  |panicked ch=>exact q.elim
  |outgrown=>exact q.elim
  |returned V=>
   obtain⟨τ,v,g',pc,_,q2,st3,qe,fn3,sz3,tm3,VN,x3,y3,db3,wD,aT,hQ⟩:=q;obtain⟨b3,T3,d3,EW,oS,wQ,_,_,_⟩:=q2.ok.loop wD;have UW:b3=w.heap.size+1:=by
    have:=(q2.le.blk (nx+1) _ Gr).1;rw[oS]at this;cases this;rfl
   subst UW;refine⟨qe,_,run_endLoop wQ aT,?_⟩;have pk:=Post.kill q2.ok wD oS (.loop { state:=.exhausted,pending:=qe,fn:=EW,tmps:=T3,params:=VN,assign:=x3,body:=y3,defers:=d3 });have Bt:=(pp.trans q2).trans pk;have PG:St τ tm { a with defers:=[{ target:=.collected w.heap.size,args:=#[] }]++a.defers } sz (.mark nx::ds):=by
    have hle:σ.Le τ:=pp.le.trans q2.le;refine⟨fun t v ht=>(st.tm t v ht).mono hle,st.size,w.heap.size,a.defers,rfl,(q2.le.blk nx _ qU).1,st.defers.mono hle⟩
   cases qe with
   |none=>exact⟨.norm,tm,_,pc,.mark nx::ds,τ,rfl,Bt,PG,hQ⟩
   |some cd=>
    cases cd <;> try exact hQ.elim
    ·exact wpIn_exit ⟨.exit _,tm,_,pc,.mark nx::ds,τ,rfl,Bt,PG,hQ⟩
    ·exact wpIn_ret ⟨.ret,tm,_,pc,.mark nx::ds,τ,rfl,Bt,PG,hQ⟩
end
def sa (P:Program)(t:TypeId):Option (Nat×Bool):=
 match P.underlying t,P.info? t with
 |some d,some i=>some (i.size,kB d)
 |_,_=>none
def Z0 {P:Program}{t:TypeId}{s:Nat}{b:Bool}(h:sa P t=some (s,b)):TF P t s b:=by
 unfold sa at h;split at h
 ·rename_i d i hd hi;cases h;exact⟨⟨i,hi,rfl⟩,d,hd,rfl⟩
 ·cases h
def CF (P:Program)(l:List Field):Option (List (Nat×Nat×Bool)):=
 List.rec (motive:=fun _=>Option (List (Nat×Nat×Bool))) (some []) (fun f _ ih=>match sa P f.type with
  |some (s,b)=>match ih with
   |some l=>some ((f.offset,s,b)::l)
   |none=>none
  |none=>none) l
def Tq {P:Program}:∀{l:List Field}{fs:List (Nat×Nat×Bool)},CF P l=some fs→fs.length=l.length∧∀(k o s:Nat)(b:Bool),fs[k]?=some (o,s,b)→∃f:Field,l[k]?=some f∧f.offset=o∧TF P f.type s b
 |[],fs,h=>by cases h;exact⟨rfl,fun k o s b e=>by simp at e⟩
 |f::l,fs,h=>by
  change (match sa P f.type with
   |some (s,b)=>match CF P l with
    |some l=>some ((f.offset,s,b)::l)
    |none=>none
   |none=>none)=some fs at h
  cases h1:sa P f.type with
  |none=>rw[h1]at h;cases h
  |some p=>
   obtain⟨s0,b0⟩:=p;rw[h1]at h;cases h2:CF P l with
   |none=>rw[h2]at h;cases h
   |some l'=>
    rw[h2]at h;cases h;obtain⟨e1,e2⟩:=Tq h2;refine⟨by simp[e1],fun k o s b e=>?_⟩;cases k with
    |zero=>
     simp at e;obtain⟨q1,q2,q3⟩:=e;subst q1;subst q2;subst q3;exact⟨f,rfl,rfl,Z0 h1⟩
    |succ k=>simpa using e2 k o s b (by simpa using e)
def YX (P:Program)(d:TypeDesc):Option (List (Nat×Nat×Bool)):=
 match d with
 |.struct fields=>CF P fields.toList
 |.slice e=>match sa P e with |some (s,b)=>some [(0,s,b)] |none=>none
 |.array _ e=>match sa P e with |some (s,b)=>some [(0,s,b)] |none=>none
 |.pointer e=>match sa P e with |some (s,b)=>some [(0,s,b)] |none=>none
 |_=>some []
def ZD (sym:Bool)(i:TypeInfo):Option AV:=
 match i.zero with
 |none=>none
 |some Z=>match Nat.beq Z.cells.toList.length i.size with
  |true=>match sym with
   |true=>qp Z
   |false=>ofV Z
  |false=>none
def x8 (sym:Bool)(P:Program)(t:TypeId):Option TI:=
 match P.underlying t,P.info? t with
 |some d,some i=>match YX P d with
  |some fs=>some (.mk d i.size i.bytes (ZD sym i) fs)
  |none=>none
 |_,_=>none
def ZB {sym:Bool}{P:Program}{t:TypeId}{ti:TI}(h:x8 sym P t=some ti):cT P t ti:=by
 unfold x8 at h;split at h
 ·rename_i d i hd hi;cases hf:YX P d with
  |none=>rw[hf]at h;cases h
  |some fs=>
   rw[hf]at h;cases h;refine⟨hd,i,hi,rfl,rfl,fun z hz=>?_,fun fields e k o s b hk=>?_,fun fields e=>?_,fun e he o s b hk=>?_⟩
   ·unfold ZD at hz;cases Jw:i.zero with
    |none=>rw[Jw]at hz;cases hz
    |some Z=>
     rw[Jw]at hz;simp only at hz;cases hb:Nat.beq Z.cells.toList.length i.size with
     |false=>rw[hb]at hz;cases hz
     |true=>
      rw[hb]at hz;have:=ad hb;refine⟨Z,rfl,fun σ=>?_,by simpa using this⟩;cases sym with
      |true=>exact ZS hz σ
      |false=>exact zEt hz σ
   ·subst e;obtain⟨_,e2⟩:=Tq (show CF P fields.toList=some fs from hf);obtain⟨f,f1,f2⟩:=e2 k o s b hk;exact⟨f,by simpa using f1,f2⟩
   ·subst e;obtain⟨e1,_⟩:=Tq (show CF P fields.toList=some fs from hf);simpa using e1
   ·have key:∀e,(match sa P e with |some (s,b)=>some [(0,s,b)] |none=>none:Option (List (Nat×Nat×Bool)))=some fs→TF P e s b:=by
     intro e he;cases hs:sa P e with
     |none=>rw[hs]at he;cases he
     |some p=>
      obtain⟨s0,b0⟩:=p;rw[hs]at he;cases he;simp at hk;obtain⟨q1,q2,q3⟩:=hk;subst q2;subst q3;exact Z0 hs
    rcases he with he |⟨n,he⟩ |he
    ·subst he;exact key e hf
    ·subst he;exact key e hf
    ·subst he;exact key e hf
 ·cases h
def r9 {α β:Type}(g:Nat→Option α) (n:Nat):(Tr α→β)→β:=
 Nat.rec (motive:=fun _=>(Tr α→β)→β) (fun k=>k .nil) (fun i ih k=>ih fun t=>t.putK (g i) i k) n
def tab {α:Type}(g:Nat→Option α) (n:Nat):Tr α:=r9 g n id
def zo {α:Type}(g:Nat→Option α):∀(n:Nat)(β:Type)(k:Tr α→β),r9 g n k=k (tab g n)
 |0,β,k=>rfl
 |n+1,β,k=>by
  show r9 g n (fun t=>t.putK (g n) n k)=k (r9 g n fun t=>t.putK (g n) n id);rw[zo g n,zo g n,Tr.putK_eq,Tr.putK_eq];rfl
def Io {α:Type}(g:Nat→Option α):∀(n t:Nat)(x:α),(tab g n).get t=some x→g t=some x
 |0,t,x,h=>by cases h
 |n+1,t,x,h=>by
  have e:tab g (n+1)=(tab g n).put n (g n):=by
   show r9 g n (fun t=>t.putK (g n) n id)=_;rw[zo g n,Tr.putK_eq];rfl
  rw[e,Tr.get_put]at h
  by_cases h1:t=n
  ·rw[if_pos h1]at h;rw[h1];exact h
  ·rw[if_neg h1]at h;exact Io g n t x h
def rE (P:Program) (f:Nat):Option Func:=
 match P.funcs[f]? with
 |some fn=>match fn.body with
  | some _ => match fn.name == "runtime.NumGoroutine" with
   |true=>none
   |false=>some fn
  |none=>none
 |none=>none
def zxy {P:Program}{f:Nat}{fn:Func}(h:rE P f=some fn):P.funcs[f]?=some fn∧∀args w,(callFunc f args).run P w=.ok (.enter f args) w:=by
 unfold rE at h;cases hf:P.funcs[f]? with
 |none=>rw[hf]at h;cases h
 |some oN=>
  rw[hf]at h;simp only at h;cases hb:oN.body with
  |none=>rw[hb]at h;cases h
  |some b=>
   rw[hb]at h;simp only at h
   cases hn : oN.name == "runtime.NumGoroutine" with
   |true=>rw[hn]at h;cases h
   |false=>
    rw[hn]at h;cases h;refine⟨rfl,fun args w=>?_⟩;simp[callFunc,hf,hb];intro e;rw[e]at hn;simp at hn
def B7 (P:Program)(e:TypeId) (k o:Nat)(u:TypeId):Bool:=liesAt P P.depth e k o u 1
def K3 {α:Type}(g:Nat→Option α):∀(n t:Nat),t<n→(tab g n).get t=g t
 |0,t,h=>by omega
 |n+1,t,h=>by
  have e:tab g (n+1)=(tab g n).put n (g n):=by
   show r9 g n (fun t=>t.putK (g n) n id)=_;rw[zo g n,Tr.putK_eq];rfl
  rw[e,Tr.get_put]
  by_cases h1:t=n
  ·rw[if_pos h1,h1]
  ·rw[if_neg h1,K3 g n t (by omega)]
def II (P:Program)(G:Gl) (nt nf:Nat):Cx:=.mk (tab (x8 true P) nt) .nil (tab (rE P) nf) G (B7 P)
def zTb (P:Program)(G:Gl) (nt nf:Nat):CxOk P (II P G nt nf):=
 ⟨fun t ti h=>ZB (Io _ _ _ _ h),fun t=>trivial,fun e k o u h=>h,fun f fn h=>zxy (Io _ _ _ _ h)⟩
def zaq {P:Program}{G:Gl}{nt nf:Nat}{t:TypeId}{ti:TI}(ht:t<nt)(h:x8 true P t=some ti):(II P G nt nf).tt.get t=some ti:=by
 show (tab (x8 true P) nt).get t=_;rw[K3 _ _ _ ht];exact h
def za9 {P:Program}{G:Gl}{nt nf:Nat}{f:FuncId}{fn:Func}(hf:f<nf)(h:rE P f=some fn):(II P G nt nf).ft.get f=some fn:=by
 show (tab (rE P) nf).get f=_;rw[K3 _ _ _ hf];exact h
def jn (a b:Nat):Nat.ble a b=decide (a≤b):=by
 cases e:Nat.ble a b with
 |true=>simp[ai e]
 |false=>
  simp
  rcases Nat.lt_or_ge b a with h |h
  ·exact h
  ·rw[Nat.ble_eq_true_of_le h]at e;cases e
def zs5 (a b:Nat):Nat.beq a b=decide (a=b):=by
 cases e:Nat.beq a b with
 |true=>simp[ad e]
 |false=>simp[nU e]
def zGb (b:Bool)(h:Tr ABlk) (nx:Nat):vBool b h nx=.val (.bool b) h nx:=by cases b <;> rfl
def S8 (n:Nat)(h:Tr ABlk) (nx:Nat):vInt n h nx=.val (.int .i64 (n:Int)) h nx:=by simp[vInt,fN_eq]
def newK_eq (t:TypeId)(l:List AV)(h:Tr ABlk) (nx:Nat)(mk:Nat→AV):newK t l h nx mk=.val (mk nx) (h.put nx (some (bx t l false 0))) (nx+1):=by
 simp[newK,lP,fN_eq,Tr.putK_eq,bx]
def KE (l:List AV) (n o:Nat)(h:o+n≤l.length):ji (eu l .nil 0) n o=some ((l.drop o).take n):=by
 refine R8 (by simp;omega) fun k hk=>?_;rw[qo,if_pos (by omega),Nat.sub_zero,List.getElem?_take,if_pos hk,List.getElem?_drop]
def zIl (k:IntKind) (a b:Int)(h:Tr ABlk) (nx:Nat):iR .add k a b h nx=.val (.int k (k.wrap (a+b))) h nx:=by simp[iR,fI_eq,qu]
def zN3 (k:IntKind) (a b:Int)(h:Tr ABlk) (nx:Nat):iR .sub k a b h nx=.val (.int k (k.wrap (a-b))) h nx:=by simp only[iR,fI_eq,qu];rfl
def zJ3 (k:IntKind) (a b:Int)(h:Tr ABlk) (nx:Nat):iR .mul k a b h nx=.val (.int k (k.wrap (a * b))) h nx:=by simp[iR,fI_eq,qu]
def zN1 (k:IntKind) (a b:Int)(h:Tr ABlk) (nx:Nat):iR .eql k a b h nx=.val (.bool (decide (a=b))) h nx:=by
 simp only[iR,sE];cases e:(a == b) <;> simp_all
def zUx (k:IntKind) (a b:Int)(h:Tr ABlk) (nx:Nat):iR .neq k a b h nx=.val (.bool (!decide (a=b))) h nx:=by
 simp only[iR,sE];cases e:(a == b) <;> simp_all
def zIy (k:IntKind) (a b:Int)(h:Tr ABlk) (nx:Nat):iR .lss k a b h nx=.val (.bool (decide (a<b))) h nx:=by
 simp only[iR,sv]
 by_cases e:a<b <;> simp[e]
def zOj (k:IntKind) (a b:Int)(h:Tr ABlk) (nx:Nat):iR .leq k a b h nx=.val (.bool (decide (a≤b))) h nx:=by
 simp only[iR,sv]
 by_cases e:a≤b
 ·simp[e,show ¬b<a by omega]
 ·simp[e,show b<a by omega]
def zO0 (k:IntKind) (a b:Int)(h:Tr ABlk) (nx:Nat):iR .gtr k a b h nx=.val (.bool (decide (b<a))) h nx:=by
 simp only[iR,sv]
 by_cases e:b<a <;> simp[e]
def zK1 (k:IntKind) (a b:Int)(h:Tr ABlk) (nx:Nat):iR .geq k a b h nx=.val (.bool (decide (b≤a))) h nx:=by
 simp only[iR,sv]
 by_cases e:b≤a
 ·simp[e,show ¬a<b by omega]
 ·simp[e,show a<b by omega]
def zRv (k k':IntKind) (a b:Int)(h:Tr ABlk) (nx:Nat):qs true [.int k a,.int k' b] h nx=.val (.int k (max a b)) h nx:=by
 simp only[qs,sv]
 by_cases e:a<b
 ·simp[e,Int.max_eq_right (Int.le_of_lt e)]
 ·simp[e,Int.max_eq_left (show b≤a by omega)]
def zKo (k k':IntKind) (a b:Int)(h:Tr ABlk) (nx:Nat):qs false [.int k a,.int k' b] h nx=.val (.int k (min a b)) h nx:=by
 simp only[qs,sv]
 by_cases e:b<a
 ·simp[e,Int.min_eq_right (Int.le_of_lt e)]
 ·simp[e,Int.min_eq_left (show a≤b by omega)]
def Sd (k:IntKind):vu k k=true:=by cases k <;> rfl
def BJ (k:IntKind) (n:Nat):ox (.int k (n:Int))=some n:=rfl
def zUp (b:Bool)(h:Tr ABlk) (nx:Nat):vQ .not (.bool b) h nx=.val (.bool (!b)) h nx:=by cases b <;> rfl
section walk
variable {P : Program} {c : Cx} {inr : Bool} {sz : Nat} {Q : AX → AS → Prop} {s : AS}
attribute [go_sem ↓] Nat.lt_irrefl
def BA (v:Option AV)(A B:AS→Prop)(s:AS):Prop:=match v with
 |some (.bool t)=>(t=true→A s)∧(t=false→B s)
 |_=>False
def QY (sz:Nat)(d:Option Tmp)(tm:Tr AV)(ds:List DE)(K:AS→Prop)(v:AV)(h:Tr ABlk) (nx:Nat):Prop:=dj sz d v (.mk tm h nx ds) K
@[go_sem ↓] theorem yc9:aw P c inr sz .skip Q s=Q .norm s:=rfl
@[go_sem ↓] theorem zWb (l:Nat):aw P c inr sz (.label l) Q s=Q .norm s:=rfl
@[go_sem ↓] theorem ybs (id:Nat)(l:List Oper):aw P c inr sz (.region id l.toArray false) Q s=gZ P c sz l (Q .norm) l s:=rfl
@[go_sem ↓] theorem zZ9 (id:Nat)(l:List Oper):aw P c inr sz (.region id l.toArray true) Q s=AW P c inr sz (.region id l.toArray true) Q s:=rfl
@[go_sem ↓] theorem zZv (a b:Code):aw P c inr sz (.seq a b) Q s=aw P c inr sz a (zl (aw P c inr sz b Q) Q) s:=rfl
@[go_sem ↓] theorem zZz (x:Operand)(a b:Code):aw P c inr sz (.cond x a b) Q s=BA (aL c.G s.tm x) (aw P c inr sz a Q) (aw P c inr sz b Q) s:=by
 unfold aw BA;rfl
@[go_sem ↓] theorem yan (id:Nat)(a:Code):aw P c inr sz (.block id a) Q s=aw P c inr sz a (xm id Q) s:=rfl
@[go_sem ↓] theorem ydq (a:Code):aw P c inr sz (.scope a) Q s=aw P c inr sz a Q s:=rfl
@[go_sem ↓] theorem yaq (id:Nat):aw P c inr sz (.exit id) Q s=Q (.exit id) s:=rfl
@[go_sem ↓] theorem zYp:aw P c inr sz .ret Q s=Q .ret s:=rfl
@[go_sem ↓] theorem yax (a:Code):aw P c inr sz (.loop a) Q s=AW P c inr sz (.loop a) Q s:=rfl
@[go_sem ↓] theorem ye7 (f:Operand)(ps:Array Tmp)(x y:Code):aw P c inr sz (.rangeFunc f ps x y) Q s=AW P c inr sz (.rangeFunc f ps x y) Q s:=rfl
@[go_sem] theorem zVh (A B:AS→Prop):BA (some (.bool true)) A B s=A s:=by simp[BA]
@[go_sem] theorem zZ1 (A B:AS→Prop):BA (some (.bool false)) A B s=B s:=by simp[BA]
def zG {t:Bool}{A B:AS→Prop}(h1:t=true→A s)(h2:t=false→B s):BA (some (.bool t)) A B s:=⟨h1,h2⟩
@[go_sem ↓] theorem zXo (K:AS→Prop):zl K Q .norm s=K s:=rfl
@[go_sem ↓] theorem zVp (K:AS→Prop) (id:Nat):zl K Q (.exit id) s=Q (.exit id) s:=rfl
@[go_sem ↓] theorem ye2 (K:AS→Prop):zl K Q .ret s=Q .ret s:=rfl
@[go_sem ↓] theorem zXe (id:Nat):xm id Q .norm s=Q .norm s:=rfl
@[go_sem ↓] theorem ybj (id iD:Nat):xm id Q (.exit iD) s=if iD=id then Q .norm s else Q (.exit iD) s:=rfl
@[go_sem ↓] theorem ybp (id:Nat):xm id Q .ret s=Q .ret s:=rfl
@[go_sem ↓] theorem ydw (ops:List Oper)(K:AS→Prop):gZ P c sz ops K [] s=K s:=rfl
@[go_sem ↓] theorem zVm (ops:List Oper)(K:AS→Prop)(o:Oper)(l:List Oper):gZ P c sz ops K (o::l) s=cI P c sz ops o (gZ P c sz ops K l) s:=rfl
section ops
variable (ops : List Oper) (K : AS → Prop) (dst : Option Tmp) (ty : TypeId) (pos : String) (aY : Array Edge) (tm : Tr AV) (h : Tr ABlk) (nx : Nat) (ds : List DE)
@[go_sem ↓] theorem zY8 (f:Operand)(args:List Operand)(iz:Array TypeId):cI P c sz ops ⟨dst,.call ⟨.value f,args.toArray,iz⟩,ty,pos,aY,none⟩ K (.mk tm h nx ds)=uu P c sz dst tm h nx ds K (aL c.G tm f) (dz c.G tm args):=by
 simp[cI,tW,gU,kZ]
@[go_sem ↓] theorem zV0 (b:Builtin)(args iz:List _)(hb:b≠.append):cI P c sz ops ⟨dst,.call ⟨.builtin b,List.toArray args,List.toArray iz⟩,ty,pos,aY,none⟩ K (.mk tm h nx ds)=dF sz dst tm ds K (bR (dz c.G tm args) fun l=>IC c b (List.toArray iz) l h nx):=by
 have:Ls ⟨.builtin b,List.toArray args,List.toArray iz⟩=false:=by cases b <;> first |rfl |exact absurd rfl hb
 simp[cI,tW,gU,kZ,jq,this,Lq,BI]
@[go_sem ↓] theorem yc0 (args:List Operand)(iz:List TypeId):cI P c sz ops ⟨dst,.call ⟨.builtin .append,args.toArray,iz.toArray⟩,ty,pos,aY,none⟩ K (.mk tm h nx ds)=dF sz dst tm ds K (xl c iz args tm h nx):=by
 simp[cI,tW,gU,kZ,jq,Ls]
@[go_sem ↓] theorem zX5 (x:Operand):cI P c sz ops ⟨dst,.move x,ty,pos,aY,none⟩ K (.mk tm h nx ds)=dF sz dst tm ds K (kX c x tm h nx):=rfl
@[go_sem ↓] theorem ye3 (x:Operand):cI P c sz ops ⟨dst,.assign x,ty,pos,aY,none⟩ K (.mk tm h nx ds)=dF sz dst tm ds K (kX c x tm h nx):=rfl
@[go_sem ↓] theorem zYl (e:TypeId):cI P c sz ops ⟨dst,.alloc e,ty,pos,aY,none⟩ K (.mk tm h nx ds)=dF sz dst tm ds K (KX c e tm h nx):=rfl
@[go_sem ↓] theorem zZa (e:TypeId)(x:Operand):cI P c sz ops ⟨dst,.box e x,ty,pos,aY,none⟩ K (.mk tm h nx ds)=dF sz dst tm ds K (BL c e x tm h nx):=rfl
@[go_sem ↓] theorem yba (t:TypeId)(x:Operand):cI P c sz ops ⟨dst,.load t x,ty,pos,aY,none⟩ K (.mk tm h nx ds)=dF sz dst tm ds K (Cb c t x tm h nx):=rfl
@[go_sem ↓] theorem ybi (t:TypeId)(x y:Operand):cI P c sz ops ⟨dst,.store t x y,ty,pos,aY,none⟩ K (.mk tm h nx ds)=dF sz dst tm ds K (BY c t x y tm h nx):=rfl
@[go_sem ↓] theorem yb1 (op:BinOp)(t t':TypeId)(x y:Operand):cI P c sz ops ⟨dst,.binOp op t x y t',ty,pos,aY,none⟩ K (.mk tm h nx ds)=dF sz dst tm ds K (BW c op t x y tm h nx):=rfl
@[go_sem ↓] theorem ya5 (op:UnOp)(t:TypeId)(x:Operand):cI P c sz ops ⟨dst,.unOp op t x,ty,pos,aY,none⟩ K (.mk tm h nx ds)=dF sz dst tm ds K (Bp c op x tm h nx):=rfl
@[go_sem ↓] theorem zXw (t:TypeId)(x:Operand) (k:Nat):cI P c sz ops ⟨dst,.fieldAddr t x k,ty,pos,aY,none⟩ K (.mk tm h nx ds)=dF sz dst tm ds K (BN c t x k tm h nx):=rfl
@[go_sem ↓] theorem zWu (t:TypeId)(x:Operand) (k:Nat):cI P c sz ops ⟨dst,.field t x k,ty,pos,aY,none⟩ K (.mk tm h nx ds)=dF sz dst tm ds K (BT c t x k tm h nx):=rfl
@[go_sem ↓] theorem zYu (t:TypeId)(x i:Operand):cI P c sz ops ⟨dst,.indexAddr t x i,ty,pos,aY,none⟩ K (.mk tm h nx ds)=dF sz dst tm ds K (Cg c t x i tm h nx):=rfl
@[go_sem ↓] theorem zWk (t:TypeId)(x i:Operand):cI P c sz ops ⟨dst,.index t x i,ty,pos,aY,none⟩ K (.mk tm h nx ds)=dF sz dst tm ds K (Ce c t x i tm h nx):=rfl
@[go_sem ↓] theorem yb7 (x:Operand) (k:Nat):cI P c sz ops ⟨dst,.extract x k,ty,pos,aY,none⟩ K (.mk tm h nx ds)=dF sz dst tm ds K (B3 c x k tm h nx):=rfl
@[go_sem ↓] theorem ydi (t:TypeId)(ps:List (Nat×Operand)):cI P c sz ops ⟨dst,.build t ps.toArray,ty,pos,aY,none⟩ K (.mk tm h nx ds)=dF sz dst tm ds K (bR (c.tt.get t) fun ti=>bR (mT c.G tm ps) fun l=>uz ti l h nx):=rfl
@[go_sem ↓] theorem zYv (t:TypeId) (n:Nat)(ps:List (Nat×Operand)):cI P c sz ops ⟨dst,.buildSlice t n ps.toArray,ty,pos,aY,none⟩ K (.mk tm h nx ds)=dF sz dst tm ds K (bR (c.tt.get t) fun ti=>bR (mT c.G tm ps) fun l=>DY ti (c.tt.get (kW ti)) (kW ti) n l h nx):=rfl
@[go_sem ↓] theorem zW1 (x:Operand):cI P c sz ops ⟨dst,.nilCheck x,ty,pos,aY,none⟩ K (.mk tm h nx ds)=dF sz dst tm ds K (BD c x tm h nx):=rfl
@[go_sem ↓] theorem ycd (t u:TypeId)(x:Operand):cI P c sz ops ⟨dst,.convert t u x,ty,pos,aY,none⟩ K (.mk tm h nx ds)=dF sz dst tm ds K (sd c t u x tm h nx):=rfl
@[go_sem ↓] theorem zZ5 (f:FuncId)(x y:List Operand):cI P c sz ops ⟨dst,.makeFunc (.func f) x.toArray y.toArray,ty,pos,aY,none⟩ K (.mk tm h nx ds)=dF sz dst tm ds K (bR (dz c.G tm x) fun a=>bR (dz c.G tm y) fun b=>.val (.func f a b) h nx):=rfl
@[go_sem ↓] theorem ydu (t:TypeId)(x:Operand)(lo hi mx:Option Operand):cI P c sz ops ⟨dst,.slice t x lo hi mx,ty,pos,aY,none⟩ K (.mk tm h nx ds)=dF sz dst tm ds K (Cj c t x lo hi mx tm h nx):=rfl
@[go_sem ↓] theorem zWg (t:TypeId)(r:Option Operand):cI P c sz ops ⟨dst,.makeMap t r,ty,pos,aY,none⟩ K (.mk tm h nx ds)=dF sz dst tm ds K (Lk r tm h nx):=rfl
def LK (b:Bool)(x y:R):R:=match b with
 |true=>x
 |false=>y
@[go_sem] theorem zZl (x y:R):LK true x y=x:=rfl
@[go_sem] theorem ycq (x y:R):LK false x y=y:=rfl
attribute [go_sem] vM ZO D3 DX Iq ry
@[go_sem ↓] theorem zOx (t:TypeId)(m k:Operand)(ok:Bool):cI P c sz ops ⟨dst,.lookup t m k ok,ty,pos,aY,none⟩ K (.mk tm h nx ds)=dF sz dst tm ds K (LK (vM c t) (D3 c t ok (aL c.G tm m) (aL c.G tm k) h nx) (B8 c t m k ok tm h nx)):=rfl
@[go_sem ↓] theorem ycg (t:TypeId)(x:Operand):cI P c sz ops ⟨dst,.range t x,ty,pos,aY,none⟩ K (.mk tm h nx ds)=Zm c sz dst t x tm h nx ds K:=by
 rfl
@[go_sem ↓] theorem ybt (x:Operand):cI P c sz ops ⟨dst,.next x false,ty,pos,aY,none⟩ K (.mk tm h nx ds)=XV c sz dst x tm h nx ds K:=by
 rfl
@[go_sem ↓] theorem zZp (x:Operand):cI P c sz ops ⟨dst,.entry x,ty,pos,aY,none⟩ K (.mk tm h nx ds)=Y4 c sz dst x tm h nx ds K:=by
 rfl
@[go_sem ↓] theorem yad (t:TypeId)(m k v:Operand):cI P c sz ops ⟨dst,.mapUpdate t m k v,ty,pos,aY,none⟩ K (.mk tm h nx ds)=dF sz dst tm ds K (LK (vM c t) (DX c t (aL c.G tm m) (aL c.G tm k) (aL c.G tm v) h nx) (um c t m k v tm h nx)):=rfl
@[go_sem ↓] theorem ybq (x y z:Operand):cI P c sz ops ⟨dst,.pick x y z,ty,pos,aY,none⟩ K (.mk tm h nx ds)=dF sz dst tm ds K (dN c x y z tm h nx):=rfl
@[go_sem] theorem zVy (d:Nat)(v:AV):dF sz (some d) tm ds K (.val v h nx)=(d<sz∧K (.mk (tm.put d (some v)) h nx ds)):=rfl
@[go_sem] theorem ycw:dF sz none tm ds K (.unit h nx)=K (.mk tm h nx ds):=rfl
@[go_sem] theorem yc8 (v:AV):dF sz none tm ds K (.val v h nx)=K (.mk tm h nx ds):=rfl
@[go_sem] theorem zV8 (fid:FuncId)(first cap l:List AV):uu P c sz dst tm h nx ds K (some (.func fid first cap)) (some l)=bf P c fid (first++(l++cap)) h nx (QY sz dst tm ds K):=rfl
@[go_sem] theorem zYo (i:Nat)(l:List AV):uu P c sz dst tm h nx ds K (some (.yld i)) (some l)=ui P c i l h nx (QY sz dst tm ds K):=rfl
def aA (d:Nat)(v:AV):QY sz (some d) tm ds K v h nx=(d<sz∧K (.mk (tm.put d (some v)) h nx ds)):=rfl
end ops
@[go_sem] theorem zXp (tm:Tr AV)(h:Tr ABlk) (nx:Nat)(ds:List DE):(AS.mk tm h nx ds).tm=tm:=rfl
@[go_sem] theorem ybg (tm:Tr AV)(h:Tr ABlk) (nx:Nat)(ds:List DE):(AS.mk tm h nx ds).h=h:=rfl
@[go_sem] theorem yd4 {α:Type}(a:α)(k:α→R):bR (some a) k=k a:=rfl
section ev
variable (G : Gl) (tm : Tr AV)
@[go_sem] theorem zXm (t:Tmp):aL G tm (.tmp t)=tm.get t:=rfl
@[go_sem] theorem ycm (f:FuncId):aL G tm (.func f)=some (.func f [] []):=rfl
def zR4 (v:Value)(hG:G.sym=true):aL G tm (.const v)=qp v:=by simp[aL,hG]
@[go_sem] theorem zY5 (k:IntKind) (n:Int):qp (.int k n)=some (.int k n):=rfl
@[go_sem] theorem zWh (b:Bool):qp (.bool b)=some (.bool b):=rfl
@[go_sem] theorem yco (b:ByteArray):qp (.string b)=some (.bs b):=rfl
@[go_sem] theorem ye1:qp .nilFunc=some .nilFunc:=rfl
@[go_sem] theorem yak:qp (.slice none 0 0)=some .sl0:=rfl
@[go_sem] theorem zV3:qp (.pointer none)=some .ptr0:=rfl
@[go_sem] theorem ych:qp (.map none)=some .map0:=rfl
@[go_sem] theorem zXb:qp .nilIface=some .nilIface:=rfl
@[go_sem] theorem ya0:dz G tm []=some []:=rfl
@[go_sem] theorem yal (o:Operand)(l:List Operand):dz G tm (o::l)=match aL G tm o with
 |some a=>match dz G tm l with
  |some l=>some (a::l)
  |none=>none
 |none=>none:=rfl
@[go_sem] theorem zYe:mT G tm []=some []:=rfl
@[go_sem] theorem zZf (i:Nat)(o:Operand)(l:List (Nat×Operand)):mT G tm ((i,o)::l)=match aL G tm o with
 |some a=>match mT G tm l with
  |some l=>some ((i,a)::l)
  |none=>none
 |none=>none:=rfl
end ev
attribute [go_sem] kX KX BL Cb BY BW Bp BN BT Cg Ce B3 BD Cj Lk B8 um xl dN sd HF
attribute [go_sem] zIl zN3 zJ3 zN1 zUx zIy zOj zO0 zK1 zRv zKo Sd BJ zUp zGb S8 newK_eq
attribute [go_sem] jn zs5 fN_eq fI_eq Tr.get_put Tr.putK_eq IC zxj AV.cells SB kW Hq RP
@[go_sem] theorem zW5 {α:Type}(k:Nat):(Tr.nil:Tr α).get k=none:=rfl
@[go_sem] theorem yd0 (c:Tr AV) (o:Nat):eu [] c o=c:=rfl
@[go_sem] theorem zXx (v:AV)(l:List AV)(c:Tr AV) (o:Nat):eu (v::l) c o=eu l (c.put o (some v)) (o+1):=rfl
def H7 (B:Option ABlk)(ag:Bool) (size o:Nat)(h:Tr ABlk) (nx:Nat):R:=match B with
 |some (.cells _ n c _ _)=>
  match ag with
  |true=>
   match Nat.ble (Nat.add o size) n with
   |true=>match ji c size o with |some l=>.val (.agg l) h nx |none=>.fail
   |false=>.fail
  |false=>match Nat.ble (Nat.succ o) n with
   |true=>match c.get o with |some v=>.val v h nx |none=>.fail
   |false=>.fail
 |_=>.fail
@[go_sem] theorem yaf (d:TypeDesc) (size b:Nat)(z:Option AV)(fs:List (Nat×Nat×Bool)) (i o:Nat)(h:Tr ABlk) (nx:Nat):jN (.mk d size b z fs) (.ptr i o) h nx=H7 (h.get i) (kB d) size o h nx:=rfl
@[go_sem] theorem zWp (t:TypeId)(l:List AV)(opn:Bool) (esz size o:Nat)(h:Tr ABlk) (nx:Nat)(hl:o+size≤l.length):H7 (some (bx t l opn esz)) true size o h nx=.val (.agg ((l.drop o).take size)) h nx:=by
 simp[H7,bx,jn,hl,KE l size o hl]
@[go_sem] theorem zZm (t:TypeId)(l:List AV)(opn:Bool) (esz size o:Nat)(h:Tr ABlk) (nx:Nat)(hl:o<l.length):H7 (some (bx t l opn esz)) false size o h nx=.val (l[o]) h nx:=by
 simp[H7,bx,jn,fX,Nat.succ_le_of_lt hl,hl]
@[go_sem] theorem yed (fl:Array Field) (size b:Nat)(z:Option AV)(fs:List (Nat×Nat×Bool))(cs:List AV)(h:Tr ABlk) (nx:Nat)(hl:size≤cs.length):jN (.mk (.struct fl) size b z fs) (.ip cs) h nx=.val (.agg (cs.take size)) h nx:=by
 simp[jN,kB,jn,hl]
@[go_sem] theorem ycp (fl:Array Field):kB (.struct fl)=true:=rfl
@[go_sem] theorem zWc (n:Nat)(e:TypeId):kB (.array n e)=true:=rfl
@[go_sem] theorem zX0 (k:IntKind):kB (.int k)=false:=rfl
@[go_sem] theorem zV6:kB .string=false:=rfl
@[go_sem] theorem yc7:kB .bool=false:=rfl
@[go_sem] theorem zZs (e:TypeId):kB (.slice e)=false:=rfl
@[go_sem] theorem zZn (e:TypeId):kB (.pointer e)=false:=rfl
@[go_sem] theorem ydd (e k:TypeId):kB (.map e k)=false:=rfl
@[go_sem] theorem zWj (x y:Array TypeId)(z:Bool):kB (.func x y z)=false:=rfl
def zTo (d:TypeDesc) (size b:Nat)(z:Option AV)(fs:List (Nat×Nat×Bool))(v:AV)(cs:List AV)(h:Tr ABlk) (nx:Nat)(hd:kB d=false):jN (.mk d size b z fs) (.ip (v::cs)) h nx=.val v h nx:=by
 simp[jN,hd]
attribute [go_sem] zTo
def SZ (B:Option ABlk) (i o size:Nat)(v:AV)(h:Tr ABlk) (nx:Nat):R:=
 match B with
 |some (.cells e n c opn esz)=>
  match dS v.cells && Nat.beq v.cells.length size && Nat.ble (Nat.add o size) n with
  |true=>.unit (h.put i (some (bx e (aI (toL c n) o v.cells) opn esz))) nx
  |false=>.fail
 |_=>.fail
@[go_sem] theorem zYk (d:TypeDesc) (size b:Nat)(z:Option AV)(fs:List (Nat×Nat×Bool)) (i o:Nat)(v:AV)(h:Tr ABlk) (nx:Nat):KY (.mk d size b z fs) (.ptr i o) v h nx=SZ (h.get i) i o size v h nx:=rfl
@[go_sem] theorem zY7 (t:TypeId)(l:List AV)(opn:Bool) (esz i o size:Nat)(v:AV)(h:Tr ABlk) (nx:Nat)(h1:dS v.cells=true)(h2:v.cells.length=size)(h3:o+size≤l.length):
  SZ (some (bx t l opn esz)) i o size v h nx=.unit (h.put i (some (bx t (aI l o v.cells) opn esz))) nx:=by
 simp[SZ,bx,h1,h2,jn,h3,zKg]
@[go_sem] theorem ya2 (l c:List AV)(hl:c.length=l.length):aI l 0 c=c:=by
 show l.take 0++(c++l.drop (Nat.add 0 c.length))=c;have:Nat.add 0 c.length=l.length:=by show 0+c.length=_;omega
 rw[this];simp
@[go_sem] theorem ydl:dS []=true:=rfl
@[go_sem] theorem zVn (v:AV)(l:List AV):dS (v::l)=(v.one && dS l):=by
 show (match v.one with |true=>dS l |false=>false)=_;cases v.one <;> rfl
attribute [go_sem] AV.one
attribute [go_sem] xy xD BV xK QZ uz DY xH xv KO xO uA kV fC xU xI zM mC jg kW
def zQ9 (l:List AV) (o:Nat)(c:List AV):aI l o c=l.take o++(c++l.drop (o+c.length)):=rfl
attribute [go_sem] Sy Er S4 Sm bX Lv Bf xY scal oC
@[go_sem] theorem yee (place:Nat→Option (Nat×Nat))(l:List AV):sF place [] l=some l:=rfl
@[go_sem] theorem zWl (d:TypeDesc)(k:AV) (i:Nat):mU d k [] i=some none:=rfl
@[go_sem] theorem zzh (z:List AV):kU z 0=[]:=rfl
@[go_sem] theorem zyx (z:List AV) (n:Nat):kU z (n+1)=z++kU z n:=rfl
@[go_sem] theorem Zo (e:TypeId) (size b:Nat)(z:Option AV) (x:Nat) (s:Nat)(y:Bool)(fs:List (Nat×Nat×Bool)) (i o l cp:Nat)(opn:Bool)(k:IntKind) (n:Nat)(h:Tr ABlk) (nx:Nat)(hn:n<l):
  kh (.mk (.slice e) size b z ((x,s,y)::fs)) (.sl i o l cp opn) (.int k (n:Int)) h nx=.val (.ptr i (o+n * s)) h nx:=by
 simp[kh,BJ,jn,Nat.succ_le_of_lt hn,fN_eq]
@[go_sem] theorem Sw (e:TypeId) (size b:Nat)(z:Option AV) (x:Nat) (s:Nat)(y:Bool)(fs:List (Nat×Nat×Bool))(full:Bool)(xs:List AV)(k:IntKind) (n:Nat)(h:Tr ABlk) (nx:Nat)(hn:n<xs.length):
  kh (.mk (.slice e) size b z ((x,s,y)::fs)) (.fz s full xs) (.int k (n:Int)) h nx=.val (.ip (xs[n]).cells) h nx:=by
 simp[kh,BJ,hn]
@[go_sem] theorem zYr (size b:Nat)(z:Option AV)(fs:List (Nat×Nat×Bool))(v:ByteArray)(h:Tr ABlk) (nx:Nat):k8 (.mk .string size b z fs) (.bs v) h nx=.val (.int .i64 (v.size:Int)) h nx:=rfl
@[go_sem] theorem zYs (e:TypeId) (size b:Nat)(z:Option AV)(fs:List (Nat×Nat×Bool)) (es:Nat)(full:Bool)(xs:List AV)(h:Tr ABlk) (nx:Nat):k8 (.mk (.slice e) size b z fs) (.fz es full xs) h nx=.val (.int .i64 (xs.length:Int)) h nx:=rfl
@[go_sem] theorem H9 (e:TypeId) (size b:Nat)(z:Option AV)(fs:List (Nat×Nat×Bool)) (i o l cp:Nat)(opn:Bool)(h:Tr ABlk) (nx:Nat):k8 (.mk (.slice e) size b z fs) (.sl i o l cp opn) h nx=.val (.int .i64 (l:Int)) h nx:=S8 _ _ _
@[go_sem] theorem Cp (e:TypeId) (size b:Nat)(z:Option AV)(fs:List (Nat×Nat×Bool))(h:Tr ABlk) (nx:Nat):k8 (.mk (.slice e) size b z fs) .sl0 h nx=.val (.int .i64 0) h nx:=S8 _ _ _
@[go_sem] theorem zU3 (size b:Nat)(z:Option AV)(fs:List (Nat×Nat×Bool))(v:ByteArray)(k:IntKind) (n:Nat)(h:Tr ABlk) (nx:Nat)(hn:n<v.size):uy (.mk .string size b z fs) (.bs v) (.int k (n:Int)) h nx=.val (.int .u8 ((v[n]).toNat:Int)) h nx:=by
 have:v[n]?=some v[n]:=by simp[hn]
 simp[uy,BJ,this]
def aS (x:Int)(h1:-9223372036854775808≤x)(h2:x≤9223372036854775807):IntKind.i64.wrap x=x:=by
 have:=IntWalk.i64_in x;exact this (by omega)
def BP (r:Option (List AV))(R:AV→Tr ABlk→Nat→Prop)(h:Tr ABlk) (nx:Nat):Prop:=match r with
 |some l=>R (qj l) h nx
 |none=>False
@[go_sem] theorem ybr (rs:List ResultVar)(R:AV→Tr ABlk→Nat→Prop)(tm:Tr AV)(h:Tr ABlk) (nx:Nat):xZ c rs R .ret (.mk tm h nx [])=BP (jy c tm h nx rs) R h nx:=by
 simp only[xZ,B6,BP,BR,sB,true_and];cases jy c tm h nx rs <;> rfl
@[go_sem] theorem zZx (rs:List ResultVar)(R:AV→Tr ABlk→Nat→Prop)(tm:Tr AV)(h:Tr ABlk) (nx:Nat):xZ c rs R .norm (.mk tm h nx [])=BP (jy c tm h nx rs) R h nx:=by
 simp only[xZ,B6,BP,BR,sB,true_and];cases jy c tm h nx rs <;> rfl
@[go_sem] theorem ydn (rs:List ResultVar)(R:AV→Tr ABlk→Nat→Prop)(tm:Tr AV)(h:Tr ABlk) (nx i:Nat)(hi:h.get i=some .dfr):xZ c rs R .ret (.mk tm h nx [.mark i])=BP (jy c tm (h.put i none) nx rs) R (h.put i none) nx:=by
 simp only[xZ,B6,BP,BR,sB,hi,true_and];cases jy c tm (h.put i none) nx rs <;> rfl
@[go_sem] theorem yd6 (tm:Tr AV)(h:Tr ABlk) (nx:Nat):jy c tm h nx []=some []:=rfl
@[go_sem] theorem zWw (tm:Tr AV)(h:Tr ABlk) (nx:Nat)(t:Tmp)(l:List ResultVar):jy c tm h nx (.tmp t::l)=match tm.get t with
 |some v=>match jy c tm h nx l with
  |some l=>some (v::l)
  |none=>none
 |none=>none:=rfl
def zFe (r:R):Option AV:=match r with
 |.val v _ _=>some v
 |_=>none
@[go_sem] theorem ybb (v:AV)(h:Tr ABlk) (nx:Nat):zFe (.val v h nx)=some v:=rfl
@[go_sem] theorem yb9 (tm:Tr AV)(h:Tr ABlk) (nx:Nat)(a:Tmp)(t:TypeId)(l:List ResultVar):jy c tm h nx (.cell a t::l)=match tm.get a with
 |some p=>match c.tt.get t with
  |some ti=>match zFe (jN ti p h nx) with
   |some v=>match jy c tm h nx l with
    |some l=>some (v::l)
    |none=>none
   |none=>none
  |none=>none
 |none=>none:=by
 simp only[jy,Im];cases tm.get a with
 |none=>rfl
 |some p=>
  cases c.tt.get t with
  |none=>rfl
  |some ti=>
   simp only;cases jN ti p h nx <;> rfl
@[go_sem] theorem ydh (l:List AV)(R:AV→Tr ABlk→Nat→Prop)(h:Tr ABlk) (nx:Nat):BP (some l) R h nx=R (qj l) h nx:=rfl
@[go_sem] theorem zZ7 (v:AV):qj [v]=v:=rfl
@[go_sem] theorem ycy (u v:AV)(l:List AV):qj (u::v::l)=.tup (u::v::l):=rfl
@[go_sem] theorem yb6:qj []=.tup []:=rfl
mutual
def plain:AV→Bool
 |.ptr _ _=>false
 |.sl _ _ _ _ _=>false
 |.map _=>false
 |.yld _=>false
 |.agg l=>bJ l
 |.tup l=>bJ l
 |.iface _ v=>plain v
 |.func _ l m=>bJ l && bJ m
 |.ip l=>bJ l
 |.fz _ _ l=>bJ l
 |_=>true
def bJ:List AV→Bool
 |[]=>true
 |v::l=>plain v && bJ l
end
mutual
def Fz.same {g:Tr ABlk}{nx:Nat}:∀(v:AV),plain v=true→Fz g nx v v
 |.bool b,_=>.bool b
 |.int k n,_=>.int k n
 |.str l n,_=>.str l n
 |.bs b,_=>.bs b
 |.ptr0,_=>.ptr0
 |.sl0,_=>.sl0
 |.map0,_=>.map0
 |.nilFunc,_=>.nilFunc
 |.nilIface,_=>.nilIface
 |.opq n,_=>.opq n
 |.ptr _ _,h=>by simp[plain]at h
 |.sl _ _ _ _ _,h=>by simp[plain]at h
 |.map _,h=>by simp[plain]at h
 |.yld _,h=>by simp[plain]at h
 |.agg l,h=>.agg l l (cE.same l (by simpa[plain]using h))
 |.tup l,h=>.tup l l (cE.same l (by simpa[plain]using h))
 |.iface t v,h=>.iface t v v (Fz.same v (by simpa[plain]using h))
 |.func f l m,h=>by
  simp only[plain,ao]at h;exact .func f l l m m (cE.same l h.1) (cE.same m h.2)
 |.ip l,h=>.ip l l (cE.same l (by simpa[plain]using h))
 |.fz es full l,h=>.fz es full l l (cE.same l (by simpa[plain]using h))
def cE.same {g:Tr ABlk}{nx:Nat}:∀(l:List AV),bJ l=true→cE g nx l l
 |[],_=>.nil
 |v::l,h=>by
  simp only[bJ,ao]at h;exact .cons v v l l (Fz.same v h.1) (cE.same l h.2)
end
def Fz.eq {g:Tr ABlk}{nx:Nat}{v u:AV}(hp:plain u=true)(e:v=u):Fz g nx v u:=by subst e;exact Fz.same v hp
end walk
section
variable {P : Program} {c : Cx} {sz : Nat} {s : AS}
section
variable (ops : List Oper) (Wl Cl : List Nat) (U : List (Nat × Nat)) (K : AS → Prop) (i : Nat) (hs : Nat → Tr ABlk) (tm : Tr AV) (h : Tr ABlk) (nx : Nat) (ds : List DE)
@[go_sem ↓] theorem yaj:pD P c sz ops Wl Cl U K [] i hs s=K s:=rfl
@[go_sem ↓] theorem zXd (o:Oper)(l:List Oper):pD P c sz ops Wl Cl U K (o::l) i hs s=qq P c sz ops Wl Cl U i hs o (pD P c sz ops Wl Cl U K l (i+1)) s:=rfl
def Hs (P:Program)(c:Cx) (sz:Nat)(ops:List Oper)(Wl:List Nat)(U:List (Nat×Nat)) (i:Nat)(hs:Nat→Tr ABlk)(dst:Option Tmp)(op:Op)(K:(Nat→Tr ABlk)→AS→Prop)(tm:Tr AV)(h:Tr ABlk) (nx:Nat)(ds:List DE)(C W:Bool):Prop:=match C with
 |true=>Hy P c ops Wl i h nx (kZ op) tm fun u=>dj sz dst u (.mk tm h nx ds) (K fun j=>if j=i then h else hs j)
 |false=>match W with
  |true=>Cf c sz ops U i dst tm h ds (K fun j=>if j=i then h else hs j) (cG c op tm h nx)
  |false=>BU c sz ops U i dst tm h nx ds hs (K fun j=>if j=i then h else hs j) (cG c op tm h nx)
@[go_sem ↓] theorem ycb (KK:(Nat→Tr ABlk)→AS→Prop)(dst:Option Tmp)(op:Op)(ty:TypeId)(pos:String)(aY:Array Edge):qq P c sz ops Wl Cl U i hs ⟨dst,op,ty,pos,aY,none⟩ KK (.mk tm h nx ds)=Hs P c sz ops Wl U i hs dst op KK tm h nx ds (bA i Cl) (bA i Wl):=rfl
@[go_sem] theorem ybc (i:Nat):bA i []=false:=rfl
@[go_sem] theorem zYz (i a:Nat)(l:List Nat):bA i (a::l)=(decide (i=a) || bA i l):=by
 simp only[bA,zs5];cases decide (i=a) <;> rfl
def KV (P:Program)(c:Cx)(ops:List Oper)(Wl:List Nat) (i:Nat)(h:Tr ABlk) (nx:Nat)(fid:FuncId)(args:List AV)(K:AV→Prop):Prop:=∃u,(aB P c fid args u∨(uh ops Wl i=true∧bf P c fid args h nx fun v g ny=>v=u∧g=h∧ny=nx))∧K u
variable {ops Wl i h nx} in
def dV {fid:FuncId}{args:List AV}{K':AV→Prop}{u:AV}(hr:aB P c fid args u)(hK:K' u):KV P c ops Wl i h nx fid args K':=⟨u,.inl hr,hK⟩
variable {ops Wl i h nx} in
def zKp {fid:FuncId}{args:List AV}{K':AV→Prop}{u:AV}(ho:uh ops Wl i=true)(hr:bf P c fid args h nx fun v g ny=>v=u∧g=h∧ny=nx)(hK:K' u):KV P c ops Wl i h nx fid args K':=⟨u,.inr ⟨ho,hr⟩,hK⟩
def Rn (P:Program)(c:Cx)(ops:List Oper)(Wl:List Nat) (i:Nat)(h:Tr ABlk) (nx:Nat)(f:Option AV)(l:Option (List AV))(K:AV→Prop):Prop:=match f with
 |some (.func fid first cap)=>match l with
  |some l=>KV P c ops Wl i h nx fid (first++(l++cap)) K
  |none=>False
 |_=>False
@[go_sem] theorem zZ3 (fid:FuncId)(first cap l:List AV)(K':AV→Prop):Rn P c ops Wl i h nx (some (.func fid first cap)) (some l) K'=KV P c ops Wl i h nx fid (first++(l++cap)) K':=rfl
@[go_sem] theorem zXy (KK:(Nat→Tr ABlk)→AS→Prop)(dst:Option Tmp)(f:Operand)(args:List Operand)(iz:Array TypeId)(W:Bool):Hs P c sz ops Wl U i hs dst (.call ⟨.value f,args.toArray,iz⟩) KK tm h nx ds true W=Rn P c ops Wl i h nx (aL c.G tm f) (dz c.G tm args) (fun u=>dj sz dst u (.mk tm h nx ds) (KK fun j=>if j=i then h else hs j)):=by
 simp only[Hs,Hy,kZ,Rn];cases aL c.G tm f with
 |none=>rfl
 |some fv=>
  cases fv <;> first |rfl |(cases dz c.G tm args <;> rfl)
@[go_sem] theorem yc3 (KK:(Nat→Tr ABlk)→AS→Prop)(dst:Option Tmp)(op:Op):Hs P c sz ops Wl U i hs dst op KK tm h nx ds false true=Cf c sz ops U i dst tm h ds (KK fun j=>if j=i then h else hs j) (cG c op tm h nx):=rfl
@[go_sem] theorem zX1 (KK:(Nat→Tr ABlk)→AS→Prop)(dst:Option Tmp)(op:Op):Hs P c sz ops Wl U i hs dst op KK tm h nx ds false false=BU c sz ops U i dst tm h nx ds hs (KK fun j=>if j=i then h else hs j) (cG c op tm h nx):=rfl
@[go_sem] theorem zYy (d:Nat)(v:AV)(h':Tr ABlk) (ax:Nat):BU c sz ops U i (some d) tm h nx ds hs K (.val v h' ax)=(zb c ops i tm hs h U∧(d<sz∧K (.mk (tm.put d (some v)) h nx ds))):=rfl
@[go_sem] theorem zWq (v:AV)(h':Tr ABlk) (ax:Nat):BU c sz ops U i none tm h nx ds hs K (.val v h' ax)=(zb c ops i tm hs h U∧K (.mk tm h nx ds)):=rfl
@[go_sem] theorem zV5 (d:Nat)(v:AV)(h':Tr ABlk) (ax:Nat):Cf c sz ops U i (some d) tm h ds K (.val v h' ax)=(xB c ops i tm h h' U∧(d<sz∧K (.mk (tm.put d (some v)) h' ax ds))):=rfl
@[go_sem] theorem zYq (h':Tr ABlk) (ax:Nat):Cf c sz ops U i none tm h ds K (.unit h' ax)=(xB c ops i tm h h' U∧K (.mk tm h' ax ds)):=rfl
@[go_sem] theorem ycx:zb c ops i tm hs h []=True:=rfl
@[go_sem] theorem yd3 (h':Tr ABlk):xB c ops i tm h h' []=True:=rfl
def cW (d:Nat)(v:AV):dj sz (some d) v s K=(d<sz∧K (match s with |.mk tm h nx ds=>.mk (tm.put d (some v)) h nx ds)):=rfl
@[go_sem] theorem zYn (x:Operand):cG c (.move x) tm h nx=kX c x tm h nx:=rfl
@[go_sem] theorem ydg (x:Operand):cG c (.assign x) tm h nx=kX c x tm h nx:=rfl
@[go_sem] theorem zXk (e:TypeId):cG c (.alloc e) tm h nx=KX c e tm h nx:=rfl
@[go_sem] theorem ybl (e:TypeId)(x:Operand):cG c (.box e x) tm h nx=BL c e x tm h nx:=rfl
@[go_sem] theorem yap (t:TypeId)(x:Operand):cG c (.load t x) tm h nx=Cb c t x tm h nx:=rfl
@[go_sem] theorem zY9 (t:TypeId)(x y:Operand):cG c (.store t x y) tm h nx=BY c t x y tm h nx:=rfl
@[go_sem] theorem zWy (op:BinOp)(t t':TypeId)(x y:Operand):cG c (.binOp op t x y t') tm h nx=BW c op t x y tm h nx:=rfl
@[go_sem] theorem zVl (op:UnOp)(t:TypeId)(x:Operand):cG c (.unOp op t x) tm h nx=Bp c op x tm h nx:=rfl
@[go_sem] theorem yc4 (t:TypeId)(x:Operand) (k:Nat):cG c (.fieldAddr t x k) tm h nx=BN c t x k tm h nx:=rfl
@[go_sem] theorem zY4 (t:TypeId)(x:Operand) (k:Nat):cG c (.field t x k) tm h nx=BT c t x k tm h nx:=rfl
@[go_sem] theorem yea (t:TypeId)(x i:Operand):cG c (.indexAddr t x i) tm h nx=Cg c t x i tm h nx:=rfl
@[go_sem] theorem ybw (t:TypeId)(x i:Operand):cG c (.index t x i) tm h nx=Ce c t x i tm h nx:=rfl
@[go_sem] theorem zXj (x:Operand) (k:Nat):cG c (.extract x k) tm h nx=B3 c x k tm h nx:=rfl
@[go_sem] theorem zZu (x:Operand):cG c (.nilCheck x) tm h nx=BD c x tm h nx:=rfl
@[go_sem] theorem yac (t u:TypeId)(x:Operand):cG c (.convert t u x) tm h nx=sd c t u x tm h nx:=rfl
@[go_sem] theorem yd7 (t:TypeId)(x:Operand)(lo hi mx:Option Operand):cG c (.slice t x lo hi mx) tm h nx=Cj c t x lo hi mx tm h nx:=rfl
@[go_sem] theorem yat (t:TypeId)(m k:Operand)(ok:Bool):cG c (.lookup t m k ok) tm h nx=B8 c t m k ok tm h nx:=rfl
@[go_sem] theorem zXt (t:TypeId)(m k v:Operand):cG c (.mapUpdate t m k v) tm h nx=um c t m k v tm h nx:=rfl
@[go_sem] theorem yce (x y z:Operand):cG c (.pick x y z) tm h nx=dN c x y z tm h nx:=rfl
@[go_sem] theorem zXu (t:TypeId)(q:Option Operand):cG c (.makeMap t q) tm h nx=Lk q tm h nx:=rfl
@[go_sem] theorem yar (t:TypeId)(ps:List (Nat×Operand)):cG c (.build t ps.toArray) tm h nx=(bR (c.tt.get t) fun ti=>bR (mT c.G tm ps) fun l=>uz ti l h nx):=rfl
@[go_sem] theorem ydr (t:TypeId) (n:Nat)(ps:List (Nat×Operand)):cG c (.buildSlice t n ps.toArray) tm h nx=(bR (c.tt.get t) fun ti=>bR (mT c.G tm ps) fun l=>xS ti (c.tt.get (kW ti)) (kW ti) n l h nx):=rfl
@[go_sem] theorem zV7 (f:FuncId)(x y:List Operand):cG c (.makeFunc (.func f) x.toArray y.toArray) tm h nx=(bR (dz c.G tm x) fun a=>bR (dz c.G tm y) fun b=>.val (.func f a b) h nx):=rfl
@[go_sem] theorem zZ6 (args:List Operand)(iz:List TypeId):cG c (.call ⟨.builtin .append,args.toArray,iz.toArray⟩) tm h nx=xl c iz args tm h nx:=rfl
@[go_sem] theorem ydx (b:Builtin)(args:List Operand)(iz:List TypeId)(hb:b≠.append):cG c (.call ⟨.builtin b,args.toArray,iz.toArray⟩) tm h nx=(bR (dz c.G tm args) fun l=>IC c b iz.toArray l h nx):=by
 have:Ls ⟨.builtin b,args.toArray,iz.toArray⟩=false:=by cases b <;> first |rfl |exact absurd rfl hb
 simp[cG,jq,this,Lq,BI]
attribute [go_sem] xS DU
def zs (ops:List Oper) (j:Nat):Option Tmp:=(ops[j]?).bind (·.dst)
@[go_sem] theorem zZq (dst:Option Tmp)(op:Op)(ty:TypeId)(pos:String)(aY:Array Edge)(gd:Option (Nat×Bool))(l:List Oper):zs (⟨dst,op,ty,pos,aY,gd⟩::l) 0=dst:=rfl
@[go_sem] theorem zX9 (o:Oper)(l:List Oper) (j:Nat):zs (o::l) (j+1)=zs l j:=by simp[zs]
def Zt (j:Nat)(want:Bool)(dst:Option Tmp)(op:Op)(ty:TypeId)(pos:String)(aY:Array Edge)(F:Option Bool→Prop)(hF:F none=False):F (gU ops tm ⟨dst,op,ty,pos,aY,some (j,want)⟩)=match zs ops j with
  |none=>F (some false)
  |some d=>match tm.get d with
   |some (.bool b)=>if b=want then F (some true) else F (some false)
   |some (.tup _)=>F (some false)
   |_=>False:=by
 unfold gU zs;simp only;cases ops[j]? with
 |none=>rfl
 |some oj=>
  simp only[Option.bind_some];cases oj.dst with
  |none=>rfl
  |some d=>
   simp only;cases tm.get d with
   |none=>exact hF
   |some v=>
    cases v <;> try exact hF
    ·rename_i b;cases b <;> cases want <;> simp
    ·rfl
def zxc (P:Program)(c:Cx) (sz:Nat)(ops:List Oper)(d:Option Tmp)(want:Bool)(dst:Option Tmp)(op:Op)(ty:TypeId)(pos:String)(aY:Array Edge)(K:AS→Prop)(tm:Tr AV)(h:Tr ABlk) (nx:Nat)(ds:List DE):Prop:=match d with
 |none=>dj sz dst (.tup []) (.mk tm h nx ds) K
 |some d=>match tm.get d with
  |some (.bool b)=>if b=want then cI P c sz ops ⟨dst,op,ty,pos,aY,none⟩ K (.mk tm h nx ds) else dj sz dst (.tup []) (.mk tm h nx ds) K
  |some (.tup _)=>dj sz dst (.tup []) (.mk tm h nx ds) K
  |_=>False
def kD (P:Program)(c:Cx) (sz:Nat)(ops:List Oper)(g:Option AV)(want:Bool)(dst:Option Tmp)(op:Op)(ty:TypeId)(pos:String)(aY:Array Edge)(K:AS→Prop)(tm:Tr AV)(h:Tr ABlk) (nx:Nat)(ds:List DE):Prop:=match g with
 |some (.bool b)=>if b=want then cI P c sz ops ⟨dst,op,ty,pos,aY,none⟩ K (.mk tm h nx ds) else dj sz dst (.tup []) (.mk tm h nx ds) K
 |some (.tup _)=>dj sz dst (.tup []) (.mk tm h nx ds) K
 |_=>False
@[go_sem ↓] theorem yds (j:Nat)(want:Bool)(dst:Option Tmp)(op:Op)(ty:TypeId)(pos:String)(aY:Array Edge):cI P c sz ops ⟨dst,op,ty,pos,aY,some (j,want)⟩ K (.mk tm h nx ds)=zxc P c sz ops (zs ops j) want dst op ty pos aY K tm h nx ds:=
 Zt (ops:=ops) (tm:=tm) j want dst op ty pos aY (fun b=>match b with
  |none=>False
  |some false=>dj sz dst (.tup []) (.mk tm h nx ds) K
  |some true=>tW P c sz op dst tm h nx ds K) rfl
section
variable (want : Bool) (dst : Option Tmp) (op : Op) (ty : TypeId) (pos : String) (aY : Array Edge)
@[go_sem] theorem ydy (d:Nat):zxc P c sz ops (some d) want dst op ty pos aY K tm h nx ds=kD P c sz ops (tm.get d) want dst op ty pos aY K tm h nx ds:=rfl
@[go_sem] theorem yb3:kD P c sz ops (some (.bool true)) true dst op ty pos aY K tm h nx ds=cI P c sz ops ⟨dst,op,ty,pos,aY,none⟩ K (.mk tm h nx ds):=by simp[kD]
@[go_sem] theorem zW3:kD P c sz ops (some (.bool false)) false dst op ty pos aY K tm h nx ds=cI P c sz ops ⟨dst,op,ty,pos,aY,none⟩ K (.mk tm h nx ds):=by simp[kD]
@[go_sem] theorem zWv:kD P c sz ops (some (.bool true)) false dst op ty pos aY K tm h nx ds=dj sz dst (.tup []) (.mk tm h nx ds) K:=by simp[kD]
@[go_sem] theorem yeb:kD P c sz ops (some (.bool false)) true dst op ty pos aY K tm h nx ds=dj sz dst (.tup []) (.mk tm h nx ds) K:=by simp[kD]
@[go_sem] theorem yd2 (l:List AV):kD P c sz ops (some (.tup l)) want dst op ty pos aY K tm h nx ds=dj sz dst (.tup []) (.mk tm h nx ds) K:=rfl
end
def YM (P:Program)(c:Cx) (sz:Nat)(ops:List Oper)(Wl Cl:List Nat)(U:List (Nat×Nat)) (i:Nat)(hs:Nat→Tr ABlk)(d:Option Tmp)(want:Bool)(dst:Option Tmp)(op:Op)(ty:TypeId)(pos:String)(aY:Array Edge)(K:(Nat→Tr ABlk)→AS→Prop)(tm:Tr AV)(h:Tr ABlk) (nx:Nat)(ds:List DE):Prop:=match d with
 |none=>dj sz dst (.tup []) (.mk tm h nx ds) (K fun j=>if j=i then h else hs j)
 |some d=>match tm.get d with
  |some (.bool b)=>if b=want then qq P c sz ops Wl Cl U i hs ⟨dst,op,ty,pos,aY,none⟩ K (.mk tm h nx ds) else dj sz dst (.tup []) (.mk tm h nx ds) (K fun j=>if j=i then h else hs j)
  |some (.tup _)=>dj sz dst (.tup []) (.mk tm h nx ds) (K fun j=>if j=i then h else hs j)
  |_=>False
def vS (P:Program)(c:Cx) (sz:Nat)(ops:List Oper)(Wl Cl:List Nat)(U:List (Nat×Nat)) (i:Nat)(hs:Nat→Tr ABlk)(g:Option AV)(want:Bool)(dst:Option Tmp)(op:Op)(ty:TypeId)(pos:String)(aY:Array Edge)(K:(Nat→Tr ABlk)→AS→Prop)(tm:Tr AV)(h:Tr ABlk) (nx:Nat)(ds:List DE):Prop:=match g with
 |some (.bool b)=>if b=want then qq P c sz ops Wl Cl U i hs ⟨dst,op,ty,pos,aY,none⟩ K (.mk tm h nx ds) else dj sz dst (.tup []) (.mk tm h nx ds) (K fun j=>if j=i then h else hs j)
 |some (.tup _)=>dj sz dst (.tup []) (.mk tm h nx ds) (K fun j=>if j=i then h else hs j)
 |_=>False
@[go_sem ↓] theorem yaz (j:Nat)(want:Bool)(KK:(Nat→Tr ABlk)→AS→Prop)(dst:Option Tmp)(op:Op)(ty:TypeId)(pos:String)(aY:Array Edge):qq P c sz ops Wl Cl U i hs ⟨dst,op,ty,pos,aY,some (j,want)⟩ KK (.mk tm h nx ds)=YM P c sz ops Wl Cl U i hs (zs ops j) want dst op ty pos aY KK tm h nx ds:=
 Zt (ops:=ops) (tm:=tm) j want dst op ty pos aY (fun b=>match b with
  |none=>False
  |some false=>dj sz dst (.tup []) (.mk tm h nx ds) (KK fun j=>if j=i then h else hs j)
  |some true=>match bA i Cl with
   |true=>Hy P c ops Wl i h nx (kZ op) tm fun u=>dj sz dst u (.mk tm h nx ds) (KK fun j=>if j=i then h else hs j)
   |false=>match bA i Wl with
    |true=>Cf c sz ops U i dst tm h ds (KK fun j=>if j=i then h else hs j) (cG c op tm h nx)
    |false=>BU c sz ops U i dst tm h nx ds hs (KK fun j=>if j=i then h else hs j) (cG c op tm h nx)) rfl
section
variable (want : Bool) (dst : Option Tmp) (op : Op) (ty : TypeId) (pos : String) (aY : Array Edge) (KK : (Nat → Tr ABlk) → AS → Prop)
@[go_sem] theorem yah (d:Nat):YM P c sz ops Wl Cl U i hs (some d) want dst op ty pos aY KK tm h nx ds=vS P c sz ops Wl Cl U i hs (tm.get d) want dst op ty pos aY KK tm h nx ds:=rfl
@[go_sem] theorem ya3:vS P c sz ops Wl Cl U i hs (some (.bool true)) true dst op ty pos aY KK tm h nx ds=qq P c sz ops Wl Cl U i hs ⟨dst,op,ty,pos,aY,none⟩ KK (.mk tm h nx ds):=by simp[vS]
@[go_sem] theorem yc5:vS P c sz ops Wl Cl U i hs (some (.bool false)) false dst op ty pos aY KK tm h nx ds=qq P c sz ops Wl Cl U i hs ⟨dst,op,ty,pos,aY,none⟩ KK (.mk tm h nx ds):=by simp[vS]
@[go_sem] theorem zXg:vS P c sz ops Wl Cl U i hs (some (.bool true)) false dst op ty pos aY KK tm h nx ds=dj sz dst (.tup []) (.mk tm h nx ds) (KK fun j=>if j=i then h else hs j):=by simp[vS]
@[go_sem] theorem ycc:vS P c sz ops Wl Cl U i hs (some (.bool false)) true dst op ty pos aY KK tm h nx ds=dj sz dst (.tup []) (.mk tm h nx ds) (KK fun j=>if j=i then h else hs j):=by simp[vS]
@[go_sem] theorem zW4 (l:List AV):vS P c sz ops Wl Cl U i hs (some (.tup l)) want dst op ty pos aY KK tm h nx ds=dj sz dst (.tup []) (.mk tm h nx ds) (KK fun j=>if j=i then h else hs j):=rfl
end
@[go_sem] theorem zWn (d:Nat):dj sz (some d) (.tup []) s K=(d<sz∧K (match s with |.mk tm h nx ds=>.mk (tm.put d (some (.tup []))) h nx ds)):=rfl
end
end
section
open Go.Proofs
def xz:List AV:=(List.range 20).map fun i=>.int .u64 ((10 ^ i:Nat):Int)
def zf (g:Nat):Option (List AV):=match g with
 |0=>some xz
 |3=>some [.opq 0]
 |_=>none
def G0:Gl:=⟨6,true,zf⟩
def zM9:bJ xz=true:=by decide +kernel
def zJf:∀g cs,G0.tab g=some cs→∀h n,cE h n cs cs:=by
 intro g cs e h n;have e':zf g=some cs:=e;unfold zf at e';split at e'
 ·cases e';exact cE.same _ zM9
 ·cases e';exact .cons _ _ _ _ (.opq 0) .nil
 ·cases e'
def cx:Cx:=II Tryz.prog G0 400 400
def iQ:CxOk Tryz.prog cx:=zTb _ _ _ _
@[go_sem] theorem ET:cx.G=G0:=rfl
def uf:∀g cs,cx.G.tab g=some cs→∀h n,cE h n cs cs:=zJf
def xh:G0.sym=true:=rfl
def mixed:Tryz.prog.follows .mixedOrders=true:=by kernel_rfl
abbrev aM:=aB Tryz.prog cx
abbrev di:=bf Tryz.prog cx
def aO {f:FuncId}{fn:Func}(hf:f<400:=by decide)(h:rE Tryz.prog f=some fn:=by kernel_rfl):cx.ft.get f=some fn:=za9 hf h
def aP {f:FuncId}{fn:Func}(bO:cx.ft.get f=some fn){code:Code}{sz nx:Nat}{rs:List ResultVar}{args:List AV}{h:Tr ABlk}{R:AV→Tr ABlk→Nat→Prop}
  (hw:aw Tryz.prog cx false sz code (xZ cx rs R) (.mk (eu args .nil 0) h nx [])) (hb:fn.body=some code:=by rfl) (hs:fn.ntmps=sz:=by rfl) (hr:fn.results.toList=rs:=by rfl) (hle:args.length≤sz:=by simp):bf Tryz.prog cx f args h nx R:=zaa iQ bO hb hs hr hle hw
def eI {inr:Bool}{id sz:Nat}{l:List Oper}(Wl Cl:List Nat)(U:List (Nat×Nat)){Q:AX→AS→Prop}{s:AS}(hw:pD Tryz.prog cx sz l Wl Cl U (Q .norm) l 0 (fun _=>.nil) s)(cC:uB cx l (bP l []) Wl Cl U=true:=by kernel_rfl):AW Tryz.prog cx inr sz (.region id l.toArray true) Q s:=zbq mixed iQ xh Wl Cl U cC hw
def bl {inr:Bool}{sz:Nat}{x:Code}{Q:AX→AS→Prop}{s:AS}(h:aw Tryz.prog cx inr sz x Q s):AW Tryz.prog cx inr sz x Q s:=yU iQ x h
def cj {t:Nat}{x:TI}(hf:t<400:=by decide)(h:x8 true Tryz.prog t=some x:=by kernel_rfl):cx.tt.get t=some x:=zaq hf h
@[go_sem] theorem zWx (tm:Tr AV)(v:Value):aL G0 tm (.const v)=qp v:=zR4 _ _ _ xh
@[go_sem] theorem tt0:cx.tt.get 0=some (TI.mk (TypeDesc.tuple (List.toArray [])) 1 0 none []):=cj
@[go_sem] theorem tt2:cx.tt.get 2=some (TI.mk (TypeDesc.int IntKind.i64) 1 8 (some (AV.int IntKind.i64 (0))) []):=cj
@[go_sem] theorem tt3:cx.tt.get 3=some (TI.mk (TypeDesc.int IntKind.i64) 1 8 (some (AV.int IntKind.i64 (0))) []):=cj
@[go_sem] theorem tt4:cx.tt.get 4=some (TI.mk TypeDesc.bool 1 1 (some (AV.bool false)) []):=cj
@[go_sem] theorem tt5:cx.tt.get 5=some (TI.mk (TypeDesc.int IntKind.u8) 1 1 (some (AV.int IntKind.u8 (0))) []):=cj
@[go_sem] theorem tt9:cx.tt.get 9=some (TI.mk TypeDesc.string 1 16 (some (AV.bs ByteArray.empty)) []):=cj
@[go_sem] theorem zWe:cx.tt.get 22=some (TI.mk (TypeDesc.slice 24) 1 24 (some AV.sl0) [(0,5,true)]):=cj
def zOp : Array Field := List.toArray [{ name := "Op", type := 3, offset := 0, embedded := false, tag := "", pkgPath := "", byteOffset := 0 }, { name := "Name", type := 9, offset := 1, embedded := false, tag := "", pkgPath := "", byteOffset := 8 }, { name := "Cmp", type := 3, offset := 2, embedded := false, tag := "", pkgPath := "", byteOffset := 24 }, { name := "N", type := 3, offset := 3, embedded := false, tag := "", pkgPath := "", byteOffset := 32 }, { name := "Kids", type := 22, offset := 4, embedded := false, tag := "", pkgPath := "", byteOffset := 40 }]
@[go_sem] theorem zVu:cx.tt.get 24=some (TI.mk (TypeDesc.struct zOp) 5 64 (some (AV.agg [AV.int IntKind.i64 (0),AV.bs ByteArray.empty,AV.int IntKind.i64 (0),AV.int IntKind.i64 (0),AV.sl0])) [(0,1,false),(1,1,false),(2,1,false),(3,1,false),(4,1,false)]):=cj
@[go_sem] theorem yc6:cx.tt.get 25=some (TI.mk (TypeDesc.slice 9) 1 24 (some AV.sl0) [(0,1,false)]):=cj
@[go_sem] theorem yd8:cx.tt.get 26=some (TI.mk (TypeDesc.slice 28) 1 24 (some AV.sl0) [(0,4,true)]):=cj
def zNj : Array Field := List.toArray [{ name := "Op", type := 3, offset := 0, embedded := false, tag := "", pkgPath := "", byteOffset := 0 }, { name := "Name", type := 9, offset := 1, embedded := false, tag := "", pkgPath := "", byteOffset := 8 }, { name := "Day", type := 3, offset := 2, embedded := false, tag := "", pkgPath := "", byteOffset := 24 }, { name := "Kids", type := 26, offset := 3, embedded := false, tag := "", pkgPath := "", byteOffset := 32 }]
@[go_sem] theorem ya7:cx.tt.get 28=some (TI.mk (TypeDesc.struct zNj) 4 56 (some (AV.agg [AV.int IntKind.i64 (0),AV.bs ByteArray.empty,AV.int IntKind.i64 (0),AV.sl0])) [(0,1,false),(1,1,false),(2,1,false),(3,1,false)]):=cj
def zR3 : Array Field := List.toArray [{ name := "Id", type := 9, offset := 0, embedded := false, tag := "", pkgPath := "", byteOffset := 0 }, { name := "Rank", type := 3, offset := 1, embedded := false, tag := "", pkgPath := "", byteOffset := 16 }, { name := "Kind", type := 3, offset := 2, embedded := false, tag := "", pkgPath := "", byteOffset := 24 }, { name := "Name", type := 9, offset := 3, embedded := false, tag := "", pkgPath := "", byteOffset := 32 }, { name := "Value", type := 3, offset := 4, embedded := false, tag := "", pkgPath := "", byteOffset := 48 }, { name := "When", type := 24, offset := 5, embedded := false, tag := "", pkgPath := "", byteOffset := 56 }, { name := "Except", type := 25, offset := 10, embedded := false, tag := "", pkgPath := "", byteOffset := 120 }, { name := "Begin", type := 28, offset := 11, embedded := false, tag := "", pkgPath := "", byteOffset := 144 }, { name := "End", type := 28, offset := 15, embedded := false, tag := "", pkgPath := "", byteOffset := 200 }, { name := "Again", type := 28, offset := 19, embedded := false, tag := "", pkgPath := "", byteOffset := 256 }]
@[go_sem] theorem yd1:cx.tt.get 30=some (TI.mk (TypeDesc.struct zR3) 23 312 (some (AV.agg [AV.bs ByteArray.empty,AV.int IntKind.i64 (0),AV.int IntKind.i64 (0),AV.bs ByteArray.empty,AV.int IntKind.i64 (0),AV.int IntKind.i64 (0),AV.bs ByteArray.empty,AV.int IntKind.i64 (0),AV.int IntKind.i64 (0),AV.sl0,AV.sl0,AV.int IntKind.i64 (0),AV.bs ByteArray.empty,AV.int IntKind.i64 (0),AV.sl0,AV.int IntKind.i64 (0),AV.bs ByteArray.empty,AV.int IntKind.i64 (0),AV.sl0,AV.int IntKind.i64 (0),AV.bs ByteArray.empty,AV.int IntKind.i64 (0),AV.sl0])) [(0,1,false),(1,1,false),(2,1,false),(3,1,false),(4,1,false),(5,5,true),(10,1,false),(11,4,true),(15,4,true),(19,4,true)]):=cj
def zJ7 : Array Field := List.toArray [{ name := "Kind", type := 3, offset := 0, embedded := false, tag := "", pkgPath := "", byteOffset := 0 }, { name := "Id", type := 9, offset := 1, embedded := false, tag := "", pkgPath := "", byteOffset := 8 }, { name := "Parent", type := 9, offset := 2, embedded := false, tag := "", pkgPath := "", byteOffset := 24 }, { name := "Number", type := 9, offset := 3, embedded := false, tag := "", pkgPath := "", byteOffset := 40 }, { name := "North", type := 9, offset := 4, embedded := false, tag := "", pkgPath := "", byteOffset := 56 }, { name := "South", type := 9, offset := 5, embedded := false, tag := "", pkgPath := "", byteOffset := 72 }, { name := "Gone", type := 4, offset := 6, embedded := false, tag := "", pkgPath := "", byteOffset := 88 }]
@[go_sem] theorem yag:cx.tt.get 32=some (TI.mk (TypeDesc.struct zJ7) 7 96 (some (AV.agg [AV.int IntKind.i64 (0),AV.bs ByteArray.empty,AV.bs ByteArray.empty,AV.bs ByteArray.empty,AV.bs ByteArray.empty,AV.bs ByteArray.empty,AV.bool false])) [(0,1,false),(1,1,false),(2,1,false),(3,1,false),(4,1,false),(5,1,false),(6,1,false)]):=cj
@[go_sem] theorem ydk:cx.tt.get 33=some (TI.mk (TypeDesc.slice 65) 1 24 (some AV.sl0) [(0,4,true)]):=cj
def zFr : Array Field := List.toArray [{ name := "Facts", type := 33, offset := 0, embedded := false, tag := "", pkgPath := "", byteOffset := 0 }]
@[go_sem] theorem ybf:cx.tt.get 35=some (TI.mk (TypeDesc.struct zFr) 1 24 (some (AV.agg [AV.sl0])) [(0,1,false)]):=cj
@[go_sem] theorem yb2:cx.tt.get 40=some (TI.mk (TypeDesc.slice 3) 1 24 (some AV.sl0) [(0,1,false)]):=cj
@[go_sem] theorem zX8:cx.tt.get 41=some (TI.mk (TypeDesc.slice 3) 1 24 (some AV.sl0) [(0,1,false)]):=cj
def zM2 : Array Field := List.toArray [{ name := "Kind", type := 3, offset := 0, embedded := false, tag := "", pkgPath := "", byteOffset := 0 }, { name := "Case", type := 41, offset := 1, embedded := false, tag := "", pkgPath := "", byteOffset := 8 }]
@[go_sem] theorem ydv:cx.tt.get 43=some (TI.mk (TypeDesc.struct zM2) 2 32 (some (AV.agg [AV.int IntKind.i64 (0),AV.sl0])) [(0,1,false),(1,1,false)]):=cj
@[go_sem] theorem zWi:cx.tt.get 44=some (TI.mk (TypeDesc.int IntKind.i64) 1 8 (some (AV.int IntKind.i64 (0))) []):=cj
@[go_sem] theorem zYg:cx.tt.get 48=some (TI.mk (TypeDesc.func (List.toArray [9]) (List.toArray [4]) false) 1 8 (some AV.nilFunc) []):=cj
def zMs : Array Field := List.toArray [{ name := "Name", type := 9, offset := 0, embedded := false, tag := "", pkgPath := "", byteOffset := 0 }, { name := "Kind", type := 3, offset := 1, embedded := false, tag := "", pkgPath := "", byteOffset := 16 }, { name := "Lo", type := 3, offset := 2, embedded := false, tag := "", pkgPath := "", byteOffset := 24 }, { name := "Hi", type := 3, offset := 3, embedded := false, tag := "", pkgPath := "", byteOffset := 32 }]
@[go_sem] theorem ya1:cx.tt.get 65=some (TI.mk (TypeDesc.struct zMs) 4 40 (some (AV.agg [AV.bs ByteArray.empty,AV.int IntKind.i64 (0),AV.int IntKind.i64 (0),AV.int IntKind.i64 (0)])) [(0,1,false),(1,1,false),(2,1,false),(3,1,false)]):=cj
@[go_sem] theorem ycs:cx.tt.get 67=some (TI.mk (TypeDesc.slice 30) 1 24 (some AV.sl0) [(0,23,true)]):=cj
@[go_sem] theorem zYx:cx.tt.get 70=some (TI.mk (TypeDesc.func (List.toArray [24]) (List.toArray [24]) false) 1 8 (some AV.nilFunc) []):=cj
def zKv : Array Field := List.toArray [{ name := "a", type := 30, offset := 0, embedded := false, tag := "", pkgPath := "pandect/same", byteOffset := 0 }, { name := "b", type := 30, offset := 23, embedded := false, tag := "", pkgPath := "pandect/same", byteOffset := 312 }, { name := "further", type := 35, offset := 46, embedded := false, tag := "", pkgPath := "pandect/same", byteOffset := 624 }]
@[go_sem] theorem zYf:cx.tt.get 81=some (TI.mk (TypeDesc.struct zKv) 47 648 (some (AV.agg [AV.bs ByteArray.empty,AV.int IntKind.i64 (0),AV.int IntKind.i64 (0),AV.bs ByteArray.empty,AV.int IntKind.i64 (0),AV.int IntKind.i64 (0),AV.bs ByteArray.empty,AV.int IntKind.i64 (0),AV.int IntKind.i64 (0),AV.sl0,AV.sl0,AV.int IntKind.i64 (0),AV.bs ByteArray.empty,AV.int IntKind.i64 (0),AV.sl0,AV.int IntKind.i64 (0),AV.bs ByteArray.empty,AV.int IntKind.i64 (0),AV.sl0,AV.int IntKind.i64 (0),AV.bs ByteArray.empty,AV.int IntKind.i64 (0),AV.sl0,AV.bs ByteArray.empty,AV.int IntKind.i64 (0),AV.int IntKind.i64 (0),AV.bs ByteArray.empty,AV.int IntKind.i64 (0),AV.int IntKind.i64 (0),AV.bs ByteArray.empty,AV.int IntKind.i64 (0),AV.int IntKind.i64 (0),AV.sl0,AV.sl0,AV.int IntKind.i64 (0),AV.bs ByteArray.empty,AV.int IntKind.i64 (0),AV.sl0,AV.int IntKind.i64 (0),AV.bs ByteArray.empty,AV.int IntKind.i64 (0),AV.sl0,AV.int IntKind.i64 (0),AV.bs ByteArray.empty,AV.int IntKind.i64 (0),AV.sl0,AV.sl0])) [(0,23,true),(23,23,true),(46,1,true)]):=cj
@[go_sem] theorem zIx:cx.tt.get 82=some (TI.mk (TypeDesc.map 9 4) 1 8 (some AV.map0) []):=cj
@[go_sem] theorem zZk:cx.tt.get 84=some (TI.mk (TypeDesc.func (List.toArray []) (List.toArray [4,41,44]) false) 1 8 (some AV.nilFunc) []):=cj
def zPz : Array Field := List.toArray [{ name := "kind", type := 3, offset := 0, embedded := false, tag := "", pkgPath := "pandect/same", byteOffset := 0 }, { name := "find", type := 84, offset := 1, embedded := false, tag := "", pkgPath := "pandect/same", byteOffset := 8 }]
@[go_sem] theorem zVg:cx.tt.get 86=some (TI.mk (TypeDesc.struct zPz) 2 16 (some (AV.agg [AV.int IntKind.i64 (0),AV.nilFunc])) [(0,1,false),(1,1,false)]):=cj
@[go_sem] theorem zXn:cx.tt.get 87=some (TI.mk (TypeDesc.slice 86) 1 24 (some AV.sl0) [(0,2,true)]):=cj
@[go_sem] theorem yc2:cx.tt.get 90=some (TI.mk (TypeDesc.slice 154) 1 24 (some AV.sl0) [(0,4,true)]):=cj
def zPr : Array Field := List.toArray [{ name := "Nodes", type := 90, offset := 0, embedded := false, tag := "", pkgPath := "", byteOffset := 0 }]
@[go_sem] theorem zVb:cx.tt.get 92=some (TI.mk (TypeDesc.struct zPr) 1 24 (some (AV.agg [AV.sl0])) [(0,1,false)]):=cj
@[go_sem] theorem zYw:cx.tt.get 105=some (TI.mk (TypeDesc.slice 130) 1 24 (some AV.sl0) [(0,4,true)]):=cj
def zQo : Array Field := List.toArray [{ name := "Kind", type := 3, offset := 0, embedded := false, tag := "", pkgPath := "", byteOffset := 0 }, { name := "Text", type := 9, offset := 1, embedded := false, tag := "", pkgPath := "", byteOffset := 8 }, { name := "N", type := 3, offset := 2, embedded := false, tag := "", pkgPath := "", byteOffset := 24 }, { name := "At", type := 3, offset := 3, embedded := false, tag := "", pkgPath := "", byteOffset := 32 }]
@[go_sem] theorem zVx:cx.tt.get 130=some (TI.mk (TypeDesc.struct zQo) 4 40 (some (AV.agg [AV.int IntKind.i64 (0),AV.bs ByteArray.empty,AV.int IntKind.i64 (0),AV.int IntKind.i64 (0)])) [(0,1,false),(1,1,false),(2,1,false),(3,1,false)]):=cj
@[go_sem] theorem zVt:cx.tt.get 151=some (TI.mk (TypeDesc.slice 40) 1 24 (some AV.sl0) [(0,1,false)]):=cj
def zJn : Array Field := List.toArray [{ name := "Fact", type := 3, offset := 0, embedded := false, tag := "", pkgPath := "", byteOffset := 0 }, { name := "Cuts", type := 40, offset := 1, embedded := false, tag := "", pkgPath := "", byteOffset := 8 }, { name := "Kids", type := 40, offset := 2, embedded := false, tag := "", pkgPath := "", byteOffset := 32 }, { name := "Leaf", type := 4, offset := 3, embedded := false, tag := "", pkgPath := "", byteOffset := 56 }]
@[go_sem] theorem ycu:cx.tt.get 154=some (TI.mk (TypeDesc.struct zJn) 4 64 (some (AV.agg [AV.int IntKind.i64 (0),AV.sl0,AV.sl0,AV.bool false])) [(0,1,false),(1,1,false),(2,1,false),(3,1,false)]):=cj
@[go_sem] theorem yec:cx.tt.get 169=some (TI.mk (TypeDesc.func (List.toArray [24,3]) (List.toArray [3]) false) 1 8 (some AV.nilFunc) []):=cj
@[go_sem] theorem ye9:cx.tt.get 178=some (TI.mk (TypeDesc.func (List.toArray [24]) (List.toArray [4]) false) 1 8 (some AV.nilFunc) []):=cj
@[go_sem] theorem zW7:cx.tt.get 182=some (TI.mk (TypeDesc.pointer 187) 1 8 (some AV.ptr0) [(0,2,true)]):=cj
@[go_sem] theorem yby:cx.tt.get 183=some (TI.mk (TypeDesc.map 9 3) 1 8 (some AV.map0) []):=cj
def zMo : Array Field := List.toArray [{ name := "all", type := 90, offset := 0, embedded := false, tag := "", pkgPath := "pandect/diagram", byteOffset := 0 }, { name := "at", type := 183, offset := 1, embedded := false, tag := "", pkgPath := "pandect/diagram", byteOffset := 24 }]
@[go_sem] theorem yae:cx.tt.get 185=some (TI.mk (TypeDesc.struct zMo) 2 32 (some (AV.agg [AV.sl0,AV.map0])) [(0,1,false),(1,1,false)]):=cj
def zLz : Array Field := List.toArray [{ name := "unique", type := 185, offset := 0, embedded := true, tag := "", pkgPath := "pandect/diagram", byteOffset := 0 }]
@[go_sem] theorem zXl:cx.tt.get 187=some (TI.mk (TypeDesc.struct zLz) 2 32 (some (AV.agg [AV.sl0,AV.map0])) [(0,2,true)]):=cj
@[go_sem] theorem yb8:cx.tt.get 189=some (TI.mk (TypeDesc.pointer 192) 1 8 (some AV.ptr0) [(0,2,true)]):=cj
@[go_sem] theorem yda:cx.tt.get 190=some (TI.mk (TypeDesc.slice 5) 1 24 (some AV.sl0) [(0,1,false)]):=cj
def zId : Array Field := List.toArray [{ name := "addr", type := 189, offset := 0, embedded := false, tag := "", pkgPath := "strings", byteOffset := 0 }, { name := "buf", type := 190, offset := 1, embedded := false, tag := "", pkgPath := "strings", byteOffset := 8 }]
@[go_sem] theorem zNc:cx.tt.get 192=some (TI.mk (TypeDesc.struct zId) 2 32 (some (AV.agg [AV.ptr0,AV.sl0])) [(0,1,false),(1,1,false)]):=cj
@[go_sem] theorem yb5:cx.tt.get 199=some (TI.mk (TypeDesc.func (List.toArray [3,3]) (List.toArray [3]) false) 1 8 (some AV.nilFunc) []):=cj
def zOf : Array Field := List.toArray [{ name := "Token", type := 130, offset := 0, embedded := true, tag := "", pkgPath := "", byteOffset := 0 }, { name := "err", type := 44, offset := 4, embedded := false, tag := "", pkgPath := "pandect/lexer", byteOffset := 40 }]
@[go_sem] theorem zY6:cx.tt.get 210=some (TI.mk (TypeDesc.struct zOf) 5 48 (some (AV.agg [AV.int IntKind.i64 (0),AV.bs ByteArray.empty,AV.int IntKind.i64 (0),AV.int IntKind.i64 (0),AV.int IntKind.i64 (0)])) [(0,4,true),(4,1,false)]):=cj
@[go_sem] theorem ybh : cx.tt.get 223 = some (TI.mk (TypeDesc.interface (List.toArray [("Error", 112)])) 1 16 (some AV.nilIface) []) := cj
@[go_sem] theorem zVe:cx.tt.get 227=some (TI.mk (TypeDesc.pointer 5) 1 8 (some AV.ptr0) [(0,1,false)]):=cj
@[go_sem] theorem yc1:cx.tt.get 228=some (TI.mk (TypeDesc.func (List.toArray [24]) (List.toArray []) false) 1 8 (some AV.nilFunc) []):=cj
@[go_sem] theorem ya4:cx.tt.get 234=some (TI.mk (TypeDesc.map 3 3) 1 8 (some AV.map0) []):=cj
@[go_sem] theorem zZt:cx.tt.get 235=some (TI.mk (TypeDesc.func (List.toArray [3]) (List.toArray []) false) 1 8 (some AV.nilFunc) []):=cj
@[go_sem] theorem zX4:cx.tt.get 236=some (TI.mk (TypeDesc.map 237 3) 1 8 (some AV.map0) []):=cj
@[go_sem] theorem zZj:cx.tt.get 237=some (TI.mk (TypeDesc.array 2 3) 2 16 (some (AV.agg [AV.int IntKind.i64 (0),AV.int IntKind.i64 (0)])) [(0,1,false)]):=cj
@[go_sem] theorem zZb:cx.tt.get 244=some (TI.mk (TypeDesc.array 256 5) 256 256 (some (AV.agg (List.replicate 256 (AV.int IntKind.u8 (0))))) [(0,1,false)]):=cj
@[go_sem] theorem yam:cx.tt.get 246=some (TI.mk (TypeDesc.func (List.toArray [3]) (List.toArray [5]) false) 1 8 (some AV.nilFunc) []):=cj
@[go_sem] theorem ydz:cx.tt.get 287=some (TI.mk TypeDesc.unsafePointer 1 8 (some AV.ptr0) []):=cj
@[go_sem] theorem ybz:cx.tt.get 289=some (TI.mk (TypeDesc.array 24 5) 24 24 (some (AV.agg (List.replicate 24 (AV.int IntKind.u8 (0))))) [(0,1,false)]):=cj
@[go_sem] theorem zX7:cx.tt.get 290=some (TI.mk (TypeDesc.int IntKind.u64) 1 8 (some (AV.int IntKind.u64 (0))) []):=cj
@[go_sem] theorem ycv:cx.tt.get 317=some (TI.mk (TypeDesc.array 20 290) 20 160 (some (AV.agg [AV.int IntKind.u64 (0),AV.int IntKind.u64 (0),AV.int IntKind.u64 (0),AV.int IntKind.u64 (0),AV.int IntKind.u64 (0),AV.int IntKind.u64 (0),AV.int IntKind.u64 (0),AV.int IntKind.u64 (0),AV.int IntKind.u64 (0),AV.int IntKind.u64 (0),AV.int IntKind.u64 (0),AV.int IntKind.u64 (0),AV.int IntKind.u64 (0),AV.int IntKind.u64 (0),AV.int IntKind.u64 (0),AV.int IntKind.u64 (0),AV.int IntKind.u64 (0),AV.int IntKind.u64 (0),AV.int IntKind.u64 (0),AV.int IntKind.u64 (0)])) [(0,1,false)]):=cj
inductive Fm where
 |mk (op:Int) (name:ByteArray) (cmp n:Int) (kids:List Fm)
mutual
def Fm.cs:Fm→List AV
 |.mk op name cmp n kids=>[.int .i64 op,.bs name,.int .i64 cmp,.int .i64 n,.fz 5 false (bU kids)]
def bU:List Fm→List AV
 |[]=>[]
 |f::l=>.agg f.cs::bU l
end
def Ek:∀(l:List Fm),bU l=l.map fun f=>.agg f.cs
 |[]=>rfl
 |f::l=>by simp[bU,Ek l]
mutual
def Fm.size:Fm→Nat
 |.mk _ _ _ _ kids=>1+bd kids
def bd:List Fm→Nat
 |[]=>0
 |f::l=>f.size+bd l
end
mutual
def Fm.deep:Fm→Nat
 |.mk _ _ _ _ kids=>iU kids+1
def iU:List Fm→Nat
 |[]=>0
 |f::l=>max f.deep (iU l)
end
def zI0:cx.ft.get 130=some Tryz.f130:=aO
def L6 (l m:List Fm):bd (l++m)=bd l+bd m:=by
 induction l with
 |nil=>simp[bd]
 |cons f l ih=>simp[bd,ih];omega
def ZE (l m:List Fm):iU (l++m)=max (iU l) (iU m):=by
 induction l with
 |nil=>simp[iU]
 |cons f l ih=>simp[iU,ih,Nat.max_assoc]
def EE:∀f:Fm,f.deep≤f.size
 |.mk _ _ _ _ kids=>by
  simp only[Fm.deep,Fm.size];have:=deepL_le kids;omega
 where deepL_le:∀l:List Fm,iU l≤bd l
 |[]=>by simp[iU]
 |f::l=>by
  simp only[iU,bd];have:=EE f;have:=deepL_le l;omega
@[go_sem] theorem Fm.cs_len (f:Fm):f.cs.length=5:=by cases f;rfl
@[go_sem] theorem Fm.cs_one (f:Fm):dS f.cs=true:=by cases f;rfl
@[go_sem] theorem Fm.cs_take (f:Fm):f.cs.take 5=f.cs:=ar (by simp[Fm.cs_len])
@[go_sem] theorem zLj (l:List Fm):(bU l).length=l.length:=by simp[Ek]
@[go_sem] theorem yca (kids:List Fm) (k:Nat)(hk:k<(bU kids).length):(bU kids)[k]=(.agg (kids[k]'(by simpa[Ek]using hk)).cs):=by simp[Ek]
def size_pos (f:Fm):1≤f.size:=by cases f;simp[Fm.size]
def sI:∀l:List Fm,l.length≤bd l
 |[]=>by simp[bd]
 |f::l=>by
  have:=size_pos f;have:=sI l;simp only[bd,List.length_cons];omega
def nX {l:List Fm}{k:Nat}(hk:k<l.length):bd (l.take (k+1))=bd (l.take k)+(l[k]).size∧iU (l.take (k+1))=max (iU (l.take k)) (l[k]).deep∧bd (l.take k)+(l[k]).size≤bd l:=by
 have h1:l.take (k+1)=l.take k++[l[k]]:=List.take_succ_eq_append_getElem hk;have h2:bd l=bd (l.take (k+1))+bd (l.drop (k+1)):=by rw[← L6,List.take_append_drop]
 rw[h1,L6]at h2;rw[h1,L6,ZE];simp only[bd,iU,Nat.add_zero,Nat.max_zero]at h2 ⊢;exact⟨trivial,trivial,by omega⟩
mutual
def Fm.cs_plain:∀f:Fm,bJ f.cs=true
 |.mk op name cmp n kids=>by simp[Fm.cs,bJ,plain,Kz kids]
def Kz:∀l:List Fm,bJ (bU l)=true
 |[]=>rfl
 |f::l=>by simp[bU,bJ,plain,f.cs_plain,Kz l]
end
def zMv (b:Nat):∀(f:Fm),f.size≤b→b≤1000000000→aM 130 [.agg f.cs] (.tup [.int .i64 f.size,.int .i64 f.deep]):=by
 induction b with
 |zero=>intro f hf;cases f;simp[Fm.size]at hf
 |succ b ih=>
 intro f hf hb;have hd:=EE f;cases f with
 |mk op name cmp n kids=>
 refine aB.mk fun h nx R hR=>aP zI0 (sz:=32) (rs:=[.tmp 2,.tmp 3]) ?_;simp[go_sem,Fm.cs];simp only[Fm.size,Fm.deep]at hf hd hR;refine bF (fun m s=>∃tm h' ax k,s=.mk tm h' ax []∧m=kids.length-k∧k≤kids.length∧tm.get 11=some (.fz 5 false (bU kids))∧tm.get 12=some (.int .i64 (kids.length:Int))∧tm.get 13=some (.int .i64 (k:Int))∧
  tm.get 4=some (.int .i64 ((1+bd (kids.take k):Nat):Int))∧tm.get 5=some (.int .i64 ((iU (kids.take k):Nat):Int))∧az nx h h'∧nx≤ax) ⟨kids.length,_,_,_,0,rfl,by simp,by simp,?_⟩ ?_
 ·simp[go_sem,bd,iU];exact(az.refl nx h).put (ae _) _
 ·rintro m s ⟨tm,h',ax,k,rfl,rfl,hk,t11,t12,t13,t4,t5,he,hn⟩ J hJ
  refine bl ?_
  by_cases ay:k<kids.length
  ·obtain⟨s1,s2,s3⟩:=nX ay;have FR:=EE kids[k];have hl:=sI kids;have hd3:iU (kids.take k)≤1000000000:=by
    have:iU kids=max (iU (kids.take k)) (iU (kids.drop k)):=by rw[← ZE,List.take_append_drop]
    omega
   simp[go_sem,t11,t12,t13,t4,t5,ay];refine aB.use (ih _ (by omega) (by omega)) ?_;simp[go_sem,aA,t11,t12,t13,t4,t5,ay];refine hJ (kids.length-(k+1)) _ (by omega) ⟨_,_,_,k+1,rfl,rfl,by omega,?_⟩;simp(disch:=omega) [go_sem,t11,t12,t13,s1,s2,aS];exact⟨by omega,by omega,(he.put hn _).put hn _,by omega⟩
  ·obtain rfl:k=kids.length:=by omega
   have hd3:iU kids≤1000000000:=(by omega);rw[List.take_length]at t4 t5;simp(disch:=omega) [go_sem,t11,t12,t13,t4,t5,aS];exact hR _ _ _ he (Fz.eq rfl (by simp))
inductive bB where
 |mk (op:Int) (name:ByteArray) (day:Int) (kids:List bB)
mutual
def bB.cs:bB→List AV
 |.mk op name day kids=>[.int .i64 op,.bs name,.int .i64 day,.fz 4 false (mR kids)]
def mR:List bB→List AV
 |[]=>[]
 |f::l=>.agg f.cs::mR l
end
def HL:∀(l:List bB),mR l=l.map fun f=>.agg f.cs
 |[]=>rfl
 |f::l=>by simp[mR,HL l]
@[go_sem] theorem bB.cs_len (f:bB):f.cs.length=4:=by cases f;rfl
@[go_sem] theorem bB.cs_one (f:bB):dS f.cs=true:=by cases f;rfl
@[go_sem] theorem bB.cs_take (f:bB):f.cs.take 4=f.cs:=ar (by simp[bB.cs_len])
@[go_sem] theorem zVj (l:List bB):(mR l).length=l.length:=by simp[HL]
@[go_sem] theorem ybx (kids:List bB) (k:Nat)(hk:k<(mR kids).length):(mR kids)[k]=(.agg (kids[k]'(by simpa[HL]using hk)).cs):=by simp[HL]
mutual
def fP:bB→bB→Bool
 |.mk o n d k,.mk o' n' d' k'=>decide (o=o') && decide (n=n') && decide (d=d') && pj k k'
def pj:List bB→List bB→Bool
 |[],[]=>true
 |a::l,b::m=>fP a b && pj l m
 |_,_=>false
end
mutual
def bB.size:bB→Nat
 |.mk _ _ _ k=>1+iv k
def iv:List bB→Nat
 |[]=>0
 |a::l=>a.size+iv l
end
def zvp:∀{k k':List bB},k.length≠k'.length→pj k k'=false
 |[],[],h=>absurd rfl h
 |[],_::_,_=>by simp[pj]
 |_::_,[],_=>by simp[pj]
 |a::l,b::m,h=>by simp[pj,zvp (k:=l) (k':=m) (by simpa using h)]
def bB.size_pos (f:bB):1≤f.size:=by cases f;simp[bB.size]
def QC:∀l:List bB,l.length≤iv l
 |[]=>by simp[iv]
 |f::l=>by
  have:=f.size_pos;have:=QC l;simp only[iv,List.length_cons];omega
end
section
variable {P : Program} {c : Cx} {σ τ υ : Sg} {h g f : Tr ABlk} {nx ny nz sz : Nat} {w x y : World} {G : Gl}
def Ok.frz0 (hG:∀g cs,G.tab g=some cs→∀h n,cE h n cs cs)(hk:Ok G σ h nx w):Ok G (σ.frz w h G.n) .nil nx w:=by
 have hle:∀b C,σ.imm b=some C→(σ.frz w h G.n).imm b=some C:=fun b C hb=>by simp only[Sg.frz];rw[hb]
 refine⟨fun i hi=>?_,hk.le,fun i hi=>?_,(fun i j b B B' h1=>by cases h1),(fun i B h1=>by cases h1),fun b C hb=>⟨?_,fun i B h1=>by cases h1⟩,fun i cs hi=>?_⟩
 ·simp only[Sg.frz];rw[if_pos hi];exact hk.glob i hi
 ·simp only[Sg.frz];rw[if_neg (by have:=hk.le;omega)]
 ·simp only[Sg.frz]at hb;cases hi:σ.imm b with
  |some D=>
   rw[hi]at hb;have e:D=C:=by simpa using hb
   subst e;exact(hk.imm b D hi).1
  |none=>
   rw[hi]at hb;simp only at hb;split at hb
   ·split at hb
    ·rename_i C' t fr hh;cases hb;exact⟨t,fr,by simpa using hh⟩
    ·cases hb
   ·cases hb
 ·have:=hk.gl i cs hi;exact Fz.rel hk (.ip cs cs (hG i cs hi h G.n)) _ this
mutual
def pn:AV→Bool
 |.bool _=>true
 |.int _ _=>true
 |.str _ _=>true
 |.bs _=>true
 |.ptr0=>true
 |.sl0=>true
 |.map0=>true
 |.nilFunc=>true
 |.nilIface=>true
 |.agg l=>Ht l
 |.tup l=>Ht l
 |_=>false
def Ht:List AV→Bool
 |[]=>true
 |v::l=>pn v && Ht l
end
mutual
def av.scal {σ τ:Sg}:∀(v:AV)(V:Value),pn v=true→av σ v V→av τ v V
 |.bool _,V,_,h=>by simpa only[av]using h
 |.int _ _,V,_,h=>by simpa only[av]using h
 |.str _ _,V,_,h=>by simpa only[av]using h
 |.bs _,V,_,h=>by simpa only[av]using h
 |.ptr0,V,_,h=>by simpa only[av]using h
 |.sl0,V,_,h=>by simpa only[av]using h
 |.map0,V,_,h=>by simpa only[av]using h
 |.nilFunc,V,_,h=>by simpa only[av]using h
 |.nilIface,V,_,h=>by simpa only[av]using h
 |.agg l,V,hs,h=>by
  simp only[av]at h ⊢;obtain⟨L,e,q⟩:=h;exact⟨L,e,aC.scal l L (by simpa[pn]using hs) q⟩
 |.tup l,V,hs,h=>by
  simp only[av]at h ⊢;obtain⟨L,e,q⟩:=h;exact⟨L,e,aC.scal l L (by simpa[pn]using hs) q⟩
 |.ptr _ _,V,hs,_=>by simp[pn]at hs
 |.ip _,V,hs,_=>by simp[pn]at hs
 |.sl _ _ _ _ _,V,hs,_=>by simp[pn]at hs
 |.fz _ _ _,V,hs,_=>by simp[pn]at hs
 |.map _,V,hs,_=>by simp[pn]at hs
 |.func _ _ _,V,hs,_=>by simp[pn]at hs
 |.iface _ _,V,hs,_=>by simp[pn]at hs
 |.opq _,V,hs,_=>by simp[pn]at hs
 |.yld _,V,hs,_=>by simp[pn]at hs
def aC.scal {σ τ:Sg}:∀(l:List AV)(L:List Value),Ht l=true→aC σ l L→aC τ l L
 |[],L,_,h=>by simpa only[aC]using h
 |v::l,L,hs,h=>by
  simp only[Ht,ao]at hs;simp only[aC]at h ⊢;obtain⟨V,L',e,q1,q2⟩:=h;exact⟨V,L',e,av.scal v V hs.1 q1,aC.scal l L' hs.2 q2⟩
end
def Post.same (hk:Ok G σ h nx w)(e1:x.os=w.os)(e2:x.tape=w.tape)(e3:x.output=w.output)(e4:w.heap.size≤x.heap.size)(e5:∀b,b<w.heap.size→x.heap[b]?=w.heap[b]?):Post G σ h nx w σ h nx x:=by
 refine⟨⟨hk.glob,hk.le,hk.fresh,hk.inj,fun i B h1=>?_,fun b C hb=>⟨?_,(hk.imm b C hb).2⟩,hk.gl⟩,.refl σ,⟨e1,e2,e3,e4,fun b hb _=>e5 b hb,fun i B b h1 h2=>.inr ⟨i,B,h1,h2⟩,fun _ _ h=>.inl h⟩,ae _⟩
 ·obtain⟨b,o,q1,q2,q3⟩:=hk.blk i B h1;exact⟨b,o,q1,by rw[e5 b (BZ q2)];exact q2,q3⟩
 ·obtain⟨t,fr,q⟩:=(hk.imm b C hb).1;exact⟨t,fr,by rw[e5 b (BZ q)];exact q⟩
def aB.borrow (hG:∀g cs,c.G.tab g=some cs→∀h n,cE h n cs cs){fid:FuncId}{args args':List AV}{u:AV}(hr:aB P c fid args' u)(hs:pn u=true)(hf:cE h c.G.n args args'):bf P c fid args h nx fun v g ny=>v=u∧g=h∧ny=nx:=by
 intro σ w A hk hA;refine(hr .nil nx _ w A (hk.frz0 hG) (cE.rel hk hf A hA)).mono fun V x q=>?_;obtain⟨τ,v,g,ny,q1,q2,q3,q4,q5⟩:=q;subst q3;subst q4;subst q5;exact⟨σ,v,h,ny,q1.scal v V hs,Post.same hk q2.fr.os q2.fr.tape q2.fr.output q2.fr.size (fun b hb=>q2.fr.keep b hb fun i B hi=>by cases hi),rfl,rfl,rfl⟩
def aB.useB (hG:∀g cs,c.G.tab g=some cs→∀h n,cE h n cs cs){fid:FuncId}{args args':List AV}{u:AV}(hr:aB P c fid args' u)(hs:pn u=true)(hf:cE h c.G.n args args'){R:AV→Tr ABlk→Nat→Prop}(hR:R u h nx):bf P c fid args h nx R:=
 (hr.borrow (nx:=nx) hG hs hf).mono fun v g ny ⟨e1,e2,e3⟩=>by subst e1;subst e2;subst e3;exact hR
end
section
open Go.Proofs
def zHg:cx.ft.get 88=some Tryz.f88:=aO
def QH:cx.ft.get 133=some Tryz.f133:=aO
def zPi:cx.ft.get 134=some Tryz.f134:=aO
def zxf (f:Fm):aM 88 [.agg f.cs] (.func 133 [] [.ip f.cs]):=by
 refine aB.mk fun h nx R hR=>aP zHg (sz:=4) (rs:=[.tmp 2]) ?_;simp[go_sem];refine hR _ _ _ ((az.refl nx h).put (ae _) _) ?_;refine .func 133 _ _ _ _ .nil (.cons _ _ _ _ (.pin nx 0 24 f.cs.length (eu f.cs .nil 0) false 0 f.cs f.cs (ae _) ?_ (by omega) (fun j hj=>by rw[Nat.zero_add,fX]) ?_) .nil)
 ·rw[Tr.get_put,if_pos rfl];rfl
 ·exact cE.same _ f.cs_plain
def ew (O:Nat→Prop)(h:Tr ABlk) (nx:Nat)(O':Nat→Prop)(g:Tr ABlk) (ny:Nat):Prop:=nx≤ny∧(∀k,k<nx→¬O k→g.get k=h.get k)∧∀k,O' k→O k∨nx≤k
def ew.trans {O O' TN:Nat→Prop}{h g f:Tr ABlk}{nx ny nz:Nat}(p:ew O h nx O' g ny)(q:ew O' g ny TN f nz):ew O h nx TN f nz:=by
 obtain⟨p1,p2,p3⟩:=p;obtain⟨q1,q2,q3⟩:=q;refine⟨by omega,fun k hk ho=>?_,fun k hk=>?_⟩
 ·rw[q2 k (by omega) (fun h'=>by rcases p3 k h' with h1 |h1;exact ho h1;omega),p2 k hk ho]
 ·rcases q3 k hk with h1 |h1
  ·exact p3 k h1
  ·exact .inr (by omega)
def ew.ext {O:Nat→Prop}{h g:Tr ABlk}{nx ny:Nat}(e:az nx h g)(hl:nx≤ny):ew O h nx O g ny:=⟨hl,fun k hk _=>e k hk,fun k hk=>.inl hk⟩
structure TO (P:Program)(c:Cx)(S:Type)(step:S→Fm→S×Bool)(Pre:S→Fm→Prop) (i a b:Nat)(J JE:S→(Nat→Prop)→Tr ABlk→Nat→Prop):Prop where
 ext:∀s O h nx h' ax,J s O h nx→(∀k,O k→h'.get k=h.get k)→nx≤ax→J s O h' ax
 lt:∀s O h nx,J s O h nx→∀k,O k→k<nx∧k≠a∧k≠b
 yld:∀s O x h nx,Pre s x→J s O h nx→ui P c i [.agg x.cs] h nx fun v g ny=>v=.bool (step s x).2∧∃O',ew O h nx O' g ny∧(if (step s x).2 then J (step s x).1 O' g ny else JE (step s x).1 O' g ny)
mutual
def df {S:Type}(step:S→Fm→S×Bool):S→Fm→S×Bool
 |s,.mk o n c m kids=>if (step s (.mk o n c m kids)).2 then gh step (step s (.mk o n c m kids)).1 kids else ((step s (.mk o n c m kids)).1,false)
def gh {S:Type}(step:S→Fm→S×Bool):S→List Fm→S×Bool
 |s,[]=>(s,true)
 |s,f::l=>if (df step s f).2 then gh step (df step s f).1 l else ((df step s f).1,false)
end
mutual
def KP {S:Type}(step:S→Fm→S×Bool)(Pre:S→Fm→Prop):S→Fm→Prop
 |s,.mk o n c m kids=>Pre s (.mk o n c m kids)∧((step s (.mk o n c m kids)).2=true→K6 step Pre (step s (.mk o n c m kids)).1 kids)
def K6 {S:Type}(step:S→Fm→S×Bool)(Pre:S→Fm→Prop):S→List Fm→Prop
 |_,[]=>True
 |s,f::l=>KP step Pre s f∧((df step s f).2=true→K6 step Pre (df step s f).1 l)
end
mutual
def SH {S:Type}{step:S→Fm→S×Bool}{mu:S→Nat}(h1:∀s x,mu (step s x).1≤mu s+1):∀s f,mu (df step s f).1≤mu s+f.size
 |s,.mk o n c m kids=>by
  have h2:=h1 s (.mk o n c m kids);have h3:=Yx h1 (step s (.mk o n c m kids)).1 kids;simp only[df,Fm.size];split
  ·omega
  ·simp only;omega
def Yx {S:Type}{step:S→Fm→S×Bool}{mu:S→Nat}(h1:∀s x,mu (step s x).1≤mu s+1):∀s l,mu (gh step s l).1≤mu s+bd l
 |s,[]=>by simp[gh]
 |s,f::l=>by
  have h2:=SH h1 s f;have h3:=Yx h1 (df step s f).1 l;simp only[gh,bd];split
  ·omega
  ·simp only;omega
end
mutual
def R5 {S:Type}{step:S→Fm→S×Bool}{Pre:S→Fm→Prop}{mu:S→Nat}{N:Nat}(h1:∀s x,mu (step s x).1≤mu s+1)(h2:∀s x,mu s<N→Pre s x):∀s f,mu s+f.size≤N→KP step Pre s f
 |s,.mk o n c m kids,hl=>by
  simp only[Fm.size]at hl;have h3:=h1 s (.mk o n c m kids);exact⟨h2 _ _ (by omega),fun _=>zxp h1 h2 _ kids (by omega)⟩
def zxp {S:Type}{step:S→Fm→S×Bool}{Pre:S→Fm→Prop}{mu:S→Nat}{N:Nat}(h1:∀s x,mu (step s x).1≤mu s+1)(h2:∀s x,mu s<N→Pre s x):∀s l,mu s+bd l≤N→K6 step Pre s l
 |_,[],_=>trivial
 |s,f::l,hl=>by
  simp only[bd]at hl;have h3:=SH h1 s f;exact⟨R5 h1 h2 s f (by omega),fun _=>zxp h1 h2 _ l (by omega)⟩
end
def YC {S:Type}(J JE:S→(Nat→Prop)→Tr ABlk→Nat→Prop)(q:S×Bool)(O:Nat→Prop)(h:Tr ABlk) (nx:Nat)(v:AV)(g:Tr ABlk) (ny:Nat):Prop:=v=.bool q.2∧∃O',ew O h nx O' g ny∧(if q.2 then J q.1 O' g ny else JE q.1 O' g ny)
def zL7 {S:Type}{step:S→Fm→S×Bool}{Pre:S→Fm→Prop}{i a b:Nat}{J JE:S→(Nat→Prop)→Tr ABlk→Nat→Prop}(V:TO Tryz.prog cx S step Pre i a b J JE) (n:Nat):∀(f:Fm)(s:S)(O:Nat→Prop)(h:Tr ABlk) (nx:Nat),f.size≤n→n≤1000000000→KP step Pre s f→J s O h nx→a<nx→b<nx→
  h.get a=some (bx 178 [.yld i] false 0)→h.get b=some (bx 178 [.func 134 [] [.ptr a 0,.ptr b 0]] false 0)→
  di 134 [.agg f.cs,.ptr a 0,.ptr b 0] h nx (YC J JE (df step s f) O h nx):=by
 induction n with
 |zero=>intro f _ _ _ _ hf;cases f;simp[Fm.size]at hf
 |succ n ih=>
 intro f s O h nx hf hn hP hJ la lb ga gb;have Nv:Pre s f:=by cases f;exact hP.1
 obtain⟨R,hR⟩:∃R:AV→Tr ABlk→Nat→Prop,R=YC J JE (df step s f) O h nx:=⟨_,rfl⟩;rw[← hR];have na:¬a=nx:=by omega
 have hO:=V.lt s O h nx hJ;have e1:az nx h (h.put nx (some (bx 24 f.cs false 0))):=(az.refl nx h).put (ae _) _;refine aP zPi (sz:=23) (rs:=[.tmp 4]) ?_;simp[go_sem,ga,na];refine(V.yld s O f _ _ Nv (V.ext s O h nx _ _ hJ (fun k hk=>e1 k (hO k hk).1) (by omega))).mono ?_
 rintro v g ny ⟨rfl,O',hK,hq⟩
 have IW:=(ew.ext (O:=O) e1 (Nat.le_succ nx)).trans hK;have gf:g.get nx=some (bx 24 f.cs false 0):=by
  rw[hK.2.1 nx (by omega) (fun ho=>by have:=(hO nx ho).1;omega)];simp[go_sem]
 cases f with
 |mk o nm cm m kids=>
 by_cases hs:(step s (.mk o nm cm m kids)).2=true
 ·rw[if_pos hs]at hq;have ML:g.get a=some (bx 178 [.yld i] false 0):=by rw[IW.2.1 a la (fun ho=>(hO a ho).2.1 rfl)];exact ga
  have uI:g.get b=some (bx 178 [.func 134 [] [.ptr a 0,.ptr b 0]] false 0):=by rw[IW.2.1 b lb (fun ho=>(hO b ho).2.2 rfl)];exact gb
  have AT:nx<ny:=hK.1;have hl:=sI kids;simp only[Fm.size]at hf;have e3:df step s (.mk o nm cm m kids)=gh step (step s (.mk o nm cm m kids)).1 kids:=by rw[df,if_pos hs]
  rw[e3]at hR;simp[go_sem,aA,hs,gf,Fm.cs];refine bF (fun mm st=>∃tm h' ax k s' O1,st=.mk tm h' ax []∧mm=kids.length-k∧k≤kids.length∧tm.get 2=some (.ptr b 0)∧tm.get 12=some (.fz 5 false (bU kids))∧tm.get 13=some (.int .i64 (kids.length:Int))∧tm.get 14=some (.int .i64 (k:Int))∧
   RowKit.Hid (gh step (step s (.mk o nm cm m kids)).1 kids=gh step s' (kids.drop k))∧RowKit.Hid (ew O h nx O1 h' ax)∧J s' O1 h' ax∧RowKit.Hid (K6 step Pre s' (kids.drop k))) ⟨kids.length,_,_,_,0,(step s (.mk o nm cm m kids)).1,O',rfl,by simp,by simp,?_⟩ ?_
  ·simp[go_sem];exact⟨Lib.hid (by simp),Lib.hid IW,hq,Lib.hid (hP.2 hs)⟩
  ·rintro mm st ⟨tm,h',ax,k,s',O1,rfl,rfl,hk,t2,t12,t13,t14,hv,Fk,Nk,hPk⟩ J' lZ
   refine bl ?_;have uM:=V.lt s' O1 h' ax Nk;have ga2:h'.get a=some (bx 178 [.yld i] false 0):=by rw[Fk.out.2.1 a la (fun ho=>(hO a ho).2.1 rfl)];exact ga
   have zO:h'.get b=some (bx 178 [.func 134 [] [.ptr a 0,.ptr b 0]] false 0):=by rw[Fk.out.2.1 b lb (fun ho=>(hO b ho).2.2 rfl)];exact gb
   have vd:nx≤ax:=Fk.out.1;have nb:¬b=ax:=by omega
   by_cases ay:k<kids.length
   ·obtain⟨s1,_,s3⟩:=nX ay;have I7:gh step s' (kids.drop k)=if (df step s' kids[k]).2 then gh step (df step s' kids[k]).1 (kids.drop (k+1)) else ((df step s' kids[k]).1,false):=by
     rw[aj ay,gh]
    have HD:=Lib.hid I7;clear I7;have uO:=hPk.out;rw[aj ay]at uO;obtain⟨I3,Fq⟩:=uO;have HP4:=Lib.hid Fq;clear Fq;simp[go_sem,t2,t12,t13,t14,ay,zO,nb];have e4:az ax h' ((h'.put ax (some (bx 24 [AV.int IntKind.i64 0,AV.bs ByteArray.empty,AV.int IntKind.i64 0,AV.int IntKind.i64 0,AV.sl0] false 0))).put ax (some (bx 24 kids[k].cs false 0))):=((az.refl ax h').put (ae _) _).put (ae _) _;refine(ih kids[k] s' O1 _ _ (by omega) (by omega) I3 (V.ext s' O1 h' ax _ _ Nk (fun q hq=>e4 q (uM q hq).1) (by omega)) (by omega) (by omega) (by rw[e4 a (by omega)];exact ga2) (by rw[e4 b (by omega)];exact zO)).mono ?_
    rintro v g2 n2 ⟨rfl,O2,No,rf⟩
    have IX:=(Fk.out.trans (ew.ext (O:=O1) e4 (Nat.le_succ ax))).trans No
    by_cases ku:(df step s' kids[k]).2=true
    ·rw[if_pos ku]at rf;have hd:=HD.out;rw[if_pos ku]at hd;simp[go_sem,aA,ku,t2,t12,t13,t14];refine lZ (kids.length-(k+1)) _ (by omega) ⟨_,_,_,k+1,(df step s' kids[k]).1,O2,rfl,rfl,by omega,?_⟩;simp(disch:=omega) [go_sem,t2,t12,t13,t14,aS];exact⟨Lib.hid (by rw[hv.out,hd]),Lib.hid IX,rf,Lib.hid (HP4.out ku)⟩
    ·have O6:(df step s' kids[k]).2=false:=by simpa using ku
     rw[if_neg ku]at rf;have hd:=HD.out;rw[if_neg ku]at hd;simp[go_sem,aA,O6,t2,t12,t13,t14];rw[hR,hv.out,hd];exact⟨rfl,O2,IX,rf⟩
   ·have hd:=hv.out;rw[al (by omega),gh]at hd;simp[go_sem,t2,t12,t13,t14,ay];rw[hR,hd];exact⟨rfl,O1,Fk.out,Nk⟩
 ·have jJ:(step s (.mk o nm cm m kids)).2=false:=by simpa using hs
  rw[if_neg hs]at hq;simp[go_sem,aA,jJ];rw[hR];have e2:df step s (.mk o nm cm m kids)=((step s (.mk o nm cm m kids)).1,false):=by rw[df,if_neg hs]
  rw[e2];exact⟨rfl,O',IW,hq⟩
end
section
open Go
section
variable (size b : Nat) (z : Option AV) (fs : List (Nat × Nat × Bool)) (v : AV) (cs : List AV) (h : Tr ABlk) (nx : Nat)
@[go_sem] theorem ya9:jN (.mk .string size b z fs) (.ip (v::cs)) h nx=.val v h nx:=by simp[jN,kB]
@[go_sem] theorem ynb:jN (.mk .bool size b z fs) (.ip (v::cs)) h nx=.val v h nx:=by simp[jN,kB]
@[go_sem] theorem zZo (k:IntKind):jN (.mk (.int k) size b z fs) (.ip (v::cs)) h nx=.val v h nx:=by simp[jN,kB]
@[go_sem] theorem ynd (e:TypeId):jN (.mk (.slice e) size b z fs) (.ip (v::cs)) h nx=.val v h nx:=by simp[jN,kB]
@[go_sem] theorem ync (x y:Array TypeId)(q:Bool):jN (.mk (.func x y q) size b z fs) (.ip (v::cs)) h nx=.val v h nx:=by simp[jN,kB]
end
end
section
open Go.Proofs
structure VisN (P:Program)(c:Cx)(S:Type)(step:S→Fm→S×Bool)(Pre:S→Fm→Prop) (i:Nat)(J JE:S→(Nat→Prop)→Tr ABlk→Nat→Prop):Prop where
 ext:∀s O h nx h' ax,J s O h nx→(∀k,O k→h'.get k=h.get k)→nx≤ax→J s O h' ax
 lt:∀s O h nx,J s O h nx→∀k,O k→k<nx
 yld:∀s O x h nx,Pre s x→J s O h nx→ui P c i [.agg x.cs] h nx fun v g ny=>v=.bool (step s x).2∧∃O',ew O h nx O' g ny∧(if (step s x).2 then J (step s x).1 O' g ny else JE (step s x).1 O' g ny)
def zEy {S:Type}{step:S→Fm→S×Bool}{Pre:S→Fm→Prop}{i:Nat}{J JE:S→(Nat→Prop)→Tr ABlk→Nat→Prop}(V:VisN Tryz.prog cx S step Pre i J JE)(f:Fm)(s:S)(O:Nat→Prop)(h:Tr ABlk) (nx:Nat)(hf:f.size≤1000000000)(hP:KP step Pre s f)(hJ:J s O h nx):
  di 133 [.yld i,.ip f.cs] h nx fun _ g ny=>∃O',ew O h nx O' g ny∧(if (df step s f).2 then J (df step s f).1 O' g ny else JE (df step s f).1 O' g ny):=by
 have ay:=V.lt s O h nx hJ;have V':TO Tryz.prog cx S step Pre i nx (nx+1) (fun s O h n=>J s O h n∧nx+1+1≤n∧∀k,O k→k≠nx∧k≠nx+1) JE:=by
  refine⟨fun s O h n h' n' hj hk hn=>⟨V.ext s O h n h' n' hj.1 hk hn,by omega,hj.2.2⟩,fun s O h n hj k hk=>⟨V.lt s O h n hj.1 k hk,hj.2.2 k hk⟩,fun s O x h n hp hj=>?_⟩;refine(V.yld s O x h n hp hj.1).mono ?_
  rintro v g ny ⟨e,O',hK,hq⟩
  refine⟨e,O',hK,?_⟩;split
  ·rename_i hs;rw[if_pos hs]at hq;refine⟨hq,by have:=hK.1;omega,fun k hk=>?_⟩
   rcases hK.2.2 k hk with h1 |h1
   ·exact hj.2.2 k h1
   ·omega
  ·rename_i hs;rw[if_neg hs]at hq;exact hq
 obtain⟨R,hR⟩:∃R:AV→Tr ABlk→Nat→Prop,R=fun _ g ny=>∃O',ew O h nx O' g ny∧(if (df step s f).2 then J (df step s f).1 O' g ny else JE (df step s f).1 O' g ny):=⟨_,rfl⟩;rw[← hR];refine aP QH (sz:=8) (rs:=[]) ?_;simp[go_sem];have e1:∀A B C,az nx h (((h.put nx A).put (nx+1) B).put (nx+1) C):=fun A B C=>(((az.refl nx h).put (ae _) _).put (by omega) _).put (by omega) _;refine(zL7 V' 1000000000 f s O _ _ hf (ae _) hP ⟨V.ext s O h nx _ _ hJ (fun k hk=>e1 _ _ _ k (ay k hk)) (by omega),ae _,fun k hk=>by have:=ay k hk;omega⟩ (by omega) (by omega) (by simp[go_sem]) (by simp[go_sem])).mono ?_
 rintro v g ny ⟨rfl,O',hK,hq⟩
 simp[go_sem,aA];rw[hR];refine⟨O',(ew.ext (O:=O) (e1 _ _ _) (by omega)).trans hK,?_⟩;split
 ·rename_i hs;rw[if_pos hs]at hq;exact hq.1
 ·rename_i hs;rw[if_neg hs]at hq;exact hq
def bp (l:List ByteArray):List AV:=l.map .bs
@[go_sem] theorem uD (l:List ByteArray):(bp l).length=l.length:=by simp[bp]
@[go_sem] theorem ybm (l:List ByteArray) (k:Nat)(hk:k<(bp l).length):(bp l)[k]=.bs (l[k]'(by simpa[bp]using hk)):=by simp[bp]
def fy (x:ByteArray):List ByteArray→Int
 |[]=>-1
 |y::l=>if x=y then 0 else (if fy x l<0 then -1 else fy x l+1)
def vG (x:ByteArray)(l:List ByteArray) (k:Nat):Int:=if fy x (l.drop k)<0 then -1 else fy x (l.drop k)+k
def zHw {x:ByteArray}{l:List ByteArray}{k:Nat}(hk:k<l.length)(e:x=l[k]):vG x l k=k:=by
 unfold vG;rw[aj hk,fy,if_pos e];simp
def RT (x:ByteArray):∀l,-1≤fy x l∧(fy x l<0→fy x l=-1)
 |[]=>by simp[fy]
 |y::l=>by
  have:=RT x l;unfold fy;split
  ·omega
  ·split <;> omega
def zOz {x:ByteArray}{l:List ByteArray}{k:Nat}(hk:k<l.length)(e:¬x=l[k]):vG x l k=vG x l (k+1):=by
 unfold vG;rw[aj hk,fy,if_neg e];have:=RT x (l.drop (k+1))
 repeat' split
 all_goals omega
def zRc {x:ByteArray}{l:List ByteArray}{k:Nat}(hk:l.length≤k):vG x l k=-1:=by
 unfold vG;rw[al hk,fy];simp
def zKm (x:ByteArray)(l:List ByteArray):vG x l 0=fy x l:=by
 have:=RT x l;unfold vG;rw[List.drop_zero]
 repeat' split
 all_goals omega
def zy8:cx.ft.get 132=some Tryz.f132:=aO
def Zi:cx.ft.get 87=some Tryz.f87:=aO
def zO9 (full:Bool)(l:List ByteArray)(x:ByteArray)(hl:l.length≤1000000000):aM 132 [.fz 1 full (bp l),.bs x] (.int .i64 (fy x l)):=by
 refine aB.mk fun h nx R hR=>aP zy8 (sz:=19) (rs:=[.tmp 4]) ?_;simp[go_sem];refine bF (fun mm st=>∃tm k,st=.mk tm h nx []∧mm=l.length-k∧k≤l.length∧tm.get 0=some (.fz 1 full (bp l))∧tm.get 1=some (.bs x)∧tm.get 7=some (.int .i64 (l.length:Int))∧tm.get 8=some (.int .i64 (k:Int))∧RowKit.Hid (fy x l=vG x l k)) ⟨l.length,_,0,rfl,by simp,by simp,?_⟩ ?_
 ·simp[go_sem];exact Lib.hid (zKm x l).symm
 ·rintro mm st ⟨tm,k,rfl,rfl,hk,t0,t1,t7,t8,hv⟩ J hJ
  refine bl ?_
  by_cases ay:k<l.length
  ·by_cases he:x=l[k]
   ·have:=zHw ay he;have e':l[k]=x:=he.symm;simp[go_sem,t0,t1,t7,t8,ay,e'];refine hR _ _ _ (az.refl _ _) (Fz.eq rfl ?_);rw[hv.out,this]
   ·have:=zOz ay he;have HM:=Lib.hid this;clear this;simp[go_sem,t0,t1,t7,t8,ay,he];refine hJ (l.length-(k+1)) _ (by omega) ⟨_,k+1,rfl,rfl,by omega,?_⟩;simp(disch:=omega) [go_sem,t0,t1,t7,t8,aS];exact Lib.hid (by rw[hv.out,HM.out])
  ·have:=zRc (x:=x) (l:=l) (k:=k) (by omega);simp[go_sem,t0,t1,t7,t8,ay];refine hR _ _ _ (az.refl _ _) (Fz.eq rfl ?_);rw[hv.out,this]
def zyt (full:Bool)(l:List ByteArray)(x:ByteArray)(hl:l.length≤1000000000):aM 87 [.fz 1 full (bp l),.bs x] (.bool (decide (0≤fy x l))):=by
 refine aB.mk fun h nx R hR=>aP Zi (sz:=9) (rs:=[.tmp 4]) ?_;simp[go_sem];refine aB.use (zO9 full l x hl) ?_;simp[go_sem,aA];exact hR _ _ _ (az.refl _ _) (Fz.eq rfl rfl)
end
section
open Go
variable {P : Program} {c : Cx}
def bf.ofLe {f:FuncId}{args:List AV}{h:Tr ABlk}{nx:Nat}{R:AV→Tr ABlk→Nat→Prop}(hw:c.G.n≤nx→bf P c f args h nx R):bf P c f args h nx R:=
 fun σ w A ok hA=>hw ok.le σ w A ok hA
def RS (B:Option ABlk) (size o m:Nat):Option (Nat×List AV):=match B with
 |some (.cells _ n c _ _)=>match Nat.ble (Nat.add o (Nat.mul m size)) n with
   |true=>match ji c (Nat.mul m size) o with
    |some l=>some (m,l)
    |none=>none
   |false=>none
 |_=>none
section
variable (size i o m cp es : Nat) (opn full : Bool) (xs : List AV) (h : Tr ABlk) (nx : Nat)
@[go_sem] theorem ya8:rB size (.sl i o m cp opn) h=RS (h.get i) size o m:=rfl
@[go_sem] theorem zUy:rB size .sl0 h=some (0,[]):=rfl
@[go_sem] theorem zSd:rB size (.fz size full xs) h=some (xs.length,xs.flatMap AV.cells):=by simp[rB]
@[go_sem] theorem ya6 (t:TypeId)(l:List AV)(bD:Bool) (esz:Nat)(hl:o+m * size≤l.length):RS (some (bx t l bD esz)) size o m=some (m,(l.drop o).take (m * size)):=by
 have e:Nat.ble (Nat.add o (Nat.mul m size)) l.length=true:=Nat.ble_eq_true_of_le hl;have e2:=KE l (m * size) o hl;have e3:ji (eu l .nil 0) (Nat.mul m size) o=some ((l.drop o).take (m * size)):=e2;simp only[RS,bx,e,e3]
end
def lS (b:Bool) (m:Nat)(news:List AV) (e size:Nat)(s:AV)(h:Tr ABlk) (nx:Nat):R:=match b with
 |false=>.fail
 |true=>match s with
      |.sl0=>match Nat.beq m 0 with
       |true=>.val .sl0 h nx
       |false=>match Nat.ble m 16777216 with
        |true=>.val (.sl nx 0 m 0 true) (h.put nx (some (bx e news true size))) (nx+1)
        |false=>.fail
      |.fz es full xs=>match Nat.beq es size && full with
       |false=>.fail
       |true=>match Nat.beq m 0 with
        |true=>.val (.fz es true xs) h nx
        |false=>match Nat.ble (Nat.add xs.length m) 16777216 with
         |true=>.val (.sl nx 0 (xs.length+m) 0 true) (h.put nx (some (bx e (xs.flatMap AV.cells++news) true size))) (nx+1)
         |false=>.fail
      |.sl i o len cp opn=>match h.get i with
       |some (.cells e' n cs bD esz)=>match Nat.ble (Nat.add len m) 16777216 with
        |false=>.fail
        |true=>match opn with
         |true=>match Nat.beq o 0 && Nat.beq cp 0 && bD && Nat.beq esz size && Nat.beq e' e && Nat.beq (Nat.mul len size) n with
          |true=>.val (.sl nx 0 (len+m) 0 true) ((h.put i none).put nx (some (bx e (toL cs n++news) true size))) (nx+1)
          |false=>.fail
         |false=>match Nat.beq cp len && Nat.ble (Nat.add o (Nat.mul len size)) n with
          |false=>.fail
          |true=>match Nat.beq m 0 with
           |true=>.val (.sl i o len cp false) h nx
           |false=>.val (.sl nx 0 (len+m) 0 true) (h.put nx (some (bx e (((toL cs n).drop o).take (Nat.mul len size)++news) true size))) (nx+1)
       |_=>.fail
      |_=>.fail
def Md (b:Bool)(src:Option (Nat×List AV)) (e size:Nat)(s:AV)(h:Tr ABlk) (nx:Nat):R:=match b with
 |false=>.fail
 |true=>match src with
  |none=>.fail
  |some (m,news)=>lS (dS news) m news e size s h nx
def LY (B:Option ABlk) (i len m:Nat)(news:List AV) (e size:Nat)(h:Tr ABlk) (nx:Nat):R:=match B with
 |some (.cells e' n cs bD esz)=>match Nat.ble (Nat.add len m) 16777216 with
  |false=>.fail
  |true=>match Nat.beq 0 0 && Nat.beq 0 0 && bD && Nat.beq esz size && Nat.beq e' e && Nat.beq (Nat.mul len size) n with
   |true=>.val (.sl nx 0 (len+m) 0 true) ((h.put i none).put nx (some (bx e (toL cs n++news) true size))) (nx+1)
   |false=>.fail
 |_=>.fail
section
variable (e et size bytes m len i a1 a2 b1 b2 : Nat) (a3 b3 : Option AV) (a4 b4 c4 : List (Nat × Nat × Bool)) (du d2 : TypeDesc) (z s x : AV) (news l : List AV) (h : Tr ABlk) (nx : Nat)
@[go_sem] theorem zW6:HX (.mk (.slice e) a1 a2 a3 a4) (.mk du b1 b2 b3 b4) (some (.mk d2 size bytes (some z) c4)) et s x h nx=Md (Nat.beq e et && zx du && Nat.ble bytes 65536 && Nat.ble 1 size) (rB size x h) e size s h nx:=by
 simp only[HX,Md,lS];split
 ·rename_i hb;simp only[hb]
 ·rename_i hb;simp only[hb];cases rB size x h with
  |none=>rfl
  |some p=>
   obtain⟨m,news⟩:=p;simp only;cases dS news <;> rfl
@[go_sem] theorem X9:Md true (some (m,news)) e size s h nx=lS (dS news) m news e size s h nx:=rfl
@[go_sem] theorem zOn (h0:m≠0)(h1:m≤16777216):lS true m news e size .sl0 h nx=.val (.sl nx 0 m 0 true) (h.put nx (some (bx e news true size))) (nx+1):=by
 have e0:Nat.beq m 0=false:=by cases m;exact absurd rfl h0;rfl
 simp only[lS,e0,Nat.ble_eq_true_of_le h1]
@[go_sem] theorem ycj:lS true 0 news e size .sl0 h nx=.val .sl0 h nx:=rfl
@[go_sem] theorem Qr:lS true m news e size (.sl i 0 len 0 true) h nx=LY (h.get i) i len m news e size h nx:=by
 simp only[lS,LY]
@[go_sem] theorem Qo (h1:len * size=l.length)(h2:len+m≤16777216):LY (some (bx e l true size)) i len m news e size h nx=.val (.sl nx 0 (len+m) 0 true) ((h.put i none).put nx (some (bx e (l++news) true size))) (nx+1):=by
 have e1:Nat.ble (Nat.add len m) 16777216=true:=Nat.ble_eq_true_of_le h2;have e2:Nat.beq (Nat.mul len size) l.length=true:=by rw[show Nat.mul len size=l.length from h1];exact Nat.beq_refl _
 have e3:toL (eu l .nil 0) l.length=l:=by
  apply List.ext_getElem?;intro k
  by_cases hk:k<l.length
  ·simp[toL,hk,fX]
  ·simp[toL,hk]
 simp only[LY,bx,e1,e2,Nat.beq_refl,Bool.and_self,e3]
@[go_sem] theorem zYj:zx .string=true:=rfl
@[go_sem] theorem zVa:zx (.slice e)=true:=rfl
end
end
end
end Go.Ev
