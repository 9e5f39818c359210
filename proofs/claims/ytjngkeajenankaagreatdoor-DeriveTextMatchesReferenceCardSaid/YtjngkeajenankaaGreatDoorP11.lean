/- Texts Sim3 Sim4 Sim5 DP DQ DX. -/
import Derived.Test.YtjngkeajenankaaGreatDoorP10
set_option linter.unusedSimpArgs false
set_option linter.unusedVariables false
set_option maxRecDepth 100000
namespace Go.Ev
open Go
section
variable (size b : Nat) (z : Option AV) (fs : List (Nat × Nat × Bool)) (v : AV) (cs : List AV) (h : Tr ABlk) (nx : Nat)
@[go_sem] theorem evLoad_ip_string:evLoad (.mk .string size b z fs) (.ip (v::cs)) h nx=.val v h nx:=by simp[evLoad,isA]
@[go_sem] theorem evLoad_ip_int (k:IntKind):evLoad (.mk (.int k) size b z fs) (.ip (v::cs)) h nx=.val v h nx:=by simp[evLoad,isA]
@[go_sem] theorem evLoad_ip_slice (e:TypeId):evLoad (.mk (.slice e) size b z fs) (.ip (v::cs)) h nx=.val v h nx:=by simp[evLoad,isA]
@[go_sem] theorem evLoad_ip_func (x y:Array TypeId)(q:Bool):evLoad (.mk (.func x y q) size b z fs) (.ip (v::cs)) h nx=.val v h nx:=by simp[evLoad,isA]
end
end Go.Ev
namespace Go.Ev
open Go
noncomputable section
variable {P : Program} {c : Cx}
def srcB (B:Option ABlk) (size o m:Nat):Option (Nat×List AV):=match B with
 |some (.cells _ n c _ _)=>match Nat.ble (Nat.add o (Nat.mul m size)) n with
   |true=>match getN c (Nat.mul m size) o with
    |some l=>some (m,l)
    |none=>none
   |false=>none
 |_=>none
section
variable (size i o m cp es : Nat) (opn full : Bool) (xs : List AV) (h : Tr ABlk) (nx : Nat)
@[go_sem] theorem srcL_sl:srcL size (.sl i o m cp opn) h=srcB (h.get i) size o m:=rfl
@[go_sem] theorem srcL_sl0:srcL size .sl0 h=some (0,[]):=rfl
@[go_sem] theorem srcL_fz:srcL size (.fz size full xs) h=some (xs.length,xs.flatMap AV.cells):=by simp[srcL]
@[go_sem] theorem srcB_bx (t:TypeId)(l:List AV)(opn':Bool) (esz:Nat)(hl:o+m * size≤l.length):srcB (some (bx t l opn' esz)) size o m=some (m,(l.drop o).take (m * size)):=by
 have e:Nat.ble (Nat.add o (Nat.mul m size)) l.length=true:=Nat.ble_eq_true_of_le hl
 have e2:=getN_putN l (m * size) o hl
 have e3:getN (putN l .nil 0) (Nat.mul m size) o=some ((l.drop o).take (m * size)):=e2
 simp only[srcB,bx,e,e3]
end
def app2 (b:Bool) (m:Nat)(news:List AV) (e size:Nat)(s:AV)(h:Tr ABlk) (nx:Nat):R:=match b with
 |false=>.fail
 |true=>match s with
      |.sl0=>match Nat.beq m 0 with
       |true=>.val .sl0 h nx
       |false=>match Nat.ble m 16777216 with
        |true=>.val (.sl nx 0 m 0 true) (h.put nx (some (bx e news true size))) (nx+1)
        |false=>.fail
      |.fz es full xs=>match Nat.beq es size && full with
       |false=>.fail
       |true=>match Nat.beq m 0 with
        |true=>.val (.fz es true xs) h nx
        |false=>match Nat.ble (Nat.add xs.length m) 16777216 with
         |true=>.val (.sl nx 0 (xs.length+m) 0 true) (h.put nx (some (bx e (xs.flatMap AV.cells++news) true size))) (nx+1)
         |false=>.fail
      |.sl i o len cp opn=>match h.get i with
       |some (.cells e' n cs opn' esz)=>match Nat.ble (Nat.add len m) 16777216 with
        |false=>.fail
        |true=>match opn with
         |true=>match Nat.beq o 0 && Nat.beq cp 0 && opn' && Nat.beq esz size && Nat.beq e' e && Nat.beq (Nat.mul len size) n with
          |true=>.val (.sl nx 0 (len+m) 0 true) ((h.put i none).put nx (some (bx e (toL cs n++news) true size))) (nx+1)
          |false=>.fail
         |false=>match Nat.beq cp len && Nat.ble (Nat.add o (Nat.mul len size)) n with
          |false=>.fail
          |true=>match Nat.beq m 0 with
           |true=>.val (.sl i o len cp false) h nx
           |false=>.val (.sl nx 0 (len+m) 0 true) (h.put nx (some (bx e (((toL cs n).drop o).take (Nat.mul len size)++news) true size))) (nx+1)
       |_=>.fail
      |_=>.fail
def app1 (b:Bool)(src:Option (Nat×List AV)) (e size:Nat)(s:AV)(h:Tr ABlk) (nx:Nat):R:=match b with
 |false=>.fail
 |true=>match src with
  |none=>.fail
  |some (m,news)=>app2 (allOne news) m news e size s h nx
def appO (B:Option ABlk) (i len m:Nat)(news:List AV) (e size:Nat)(h:Tr ABlk) (nx:Nat):R:=match B with
 |some (.cells e' n cs opn' esz)=>match Nat.ble (Nat.add len m) 16777216 with
  |false=>.fail
  |true=>match Nat.beq 0 0 && Nat.beq 0 0 && opn' && Nat.beq esz size && Nat.beq e' e && Nat.beq (Nat.mul len size) n with
   |true=>.val (.sl nx 0 (len+m) 0 true) ((h.put i none).put nx (some (bx e (toL cs n++news) true size))) (nx+1)
   |false=>.fail
 |_=>.fail
section
variable (e et size bytes m len i a1 a2 b1 b2 : Nat) (a3 b3 : Option AV) (a4 b4 c4 : List (Nat × Nat × Bool)) (du d2 : TypeDesc) (z s x : AV) (news l : List AV) (h : Tr ABlk) (nx : Nat)
@[go_sem] theorem evAppendS_1 (hn:notInt du=true):evAppendS (.mk (.slice e) a1 a2 a3 a4) (.mk du b1 b2 b3 b4) (some (.mk d2 size bytes (some z) c4)) et s x h nx=app1 (Nat.beq e et && notInt du && Nat.ble bytes 65536 && Nat.ble 1 size) (srcL size x h) e size s h nx:=by
 simp only[evAppendS,app1,app2]
 split
 ·rename_i hb
  simp only[hb]
  cases du <;> first |rfl |cases hn
 ·rename_i hb
  simp only[hb]
  cases srcL size x h with
  |none=>rfl
  |some p=>
   obtain⟨m,news⟩:=p
   simp only
   cases allOne news <;> rfl
@[go_sem] theorem evAppendS_zap (k:IntKind) (n:Nat)(h1:1≤n)(h2:n≤16777216)(h3:bytes≤65536)(h4:1≤size):evAppendS (.mk (.slice e) a1 a2 a3 a4) (.mk (.int k) b1 b2 b3 b4) (some (.mk d2 size bytes (some z) c4)) e .sl0 (.int .i64 (n:Int)) h nx=.val (.sl nx 0 n 0 true) (h.put nx (some (bx e [] true size))) (nx+1):=by
 have e1:Nat.ble 1 n=true:=Nat.ble_eq_true_of_le h1
 have e2:Nat.ble n 16777216=true:=Nat.ble_eq_true_of_le h2
 have e3:Nat.ble bytes 65536=true:=Nat.ble_eq_true_of_le h3
 have e4:Nat.ble 1 size=true:=Nat.ble_eq_true_of_le h4
 simp only[evAppendS,notInt,Bool.and_false,Bool.false_and,zapS,Int.ofNat_eq_natCast]
 show (match Nat.beq e e && Nat.ble bytes 65536 && Nat.ble 1 n && Nat.ble n 16777216 && Nat.ble 1 size with
  |true=>R.val (.sl nx 0 n 0 true) (h.put nx (some (bx e [] true size))) (nx+1)
  |false=>.fail)=_
 rw[e1,e2,e3,e4,Nat.beq_refl]
 rfl
@[go_sem] theorem app1_some:app1 true (some (m,news)) e size s h nx=app2 (allOne news) m news e size s h nx:=rfl
@[go_sem] theorem app2_nil (h0:m≠0)(h1:m≤16777216):app2 true m news e size .sl0 h nx=.val (.sl nx 0 m 0 true) (h.put nx (some (bx e news true size))) (nx+1):=by
 have e0:Nat.beq m 0=false:=by cases m;exact absurd rfl h0;rfl
 simp only[app2,e0,Nat.ble_eq_true_of_le h1]
@[go_sem] theorem app2_nil0:app2 true 0 news e size .sl0 h nx=.val .sl0 h nx:=rfl
@[go_sem] theorem app2_own:app2 true m news e size (.sl i 0 len 0 true) h nx=appO (h.get i) i len m news e size h nx:=by
 simp only[app2,appO]
@[go_sem] theorem appO_bx (h1:len * size=l.length)(h2:len+m≤16777216):appO (some (bx e l true size)) i len m news e size h nx=.val (.sl nx 0 (len+m) 0 true) ((h.put i none).put nx (some (bx e (l++news) true size))) (nx+1):=by
 have e1:Nat.ble (Nat.add len m) 16777216=true:=Nat.ble_eq_true_of_le h2
 have e2:Nat.beq (Nat.mul len size) l.length=true:=by rw[show Nat.mul len size=l.length from h1];exact Nat.beq_refl _
 have e3:toL (putN l .nil 0) l.length=l:=by
  apply List.ext_getElem?
  intro k
  by_cases hk:k<l.length
  ·simp[toL,hk,get_putN0]
  ·simp[toL,hk]
 simp only[appO,bx,e1,e2,Nat.beq_refl,Bool.and_self,e3]
@[go_sem] theorem notInt_string:notInt .string=true:=by simp[notInt]
@[go_sem] theorem notInt_slice:notInt (.slice e)=true:=by simp[notInt]
end
end
end Go.Ev
namespace Go.Ev
open Go
noncomputable section
variable {P : Program} {c : Cx}
def notP (q:Prop):Prop:=¬q
@[go_sem] theorem notP_false:notP False=True:=by simp[notP]
def opt (q:Prop)(v:AV):AV:=@ite _ q (Classical.propDecidable q) v (.tup [])
def sel (q:Prop)(v u:AV):AV:=@ite _ q (Classical.propDecidable q) v u
def mergeR (q:Prop)(r:R)(h:Tr ABlk) (nx:Nat):R:=@ite _ q (Classical.propDecidable q) (r.rem h nx) (.val (.tup []) h nx)
def selR (q:Prop)(r s:R)(h:Tr ABlk) (nx:Nat):R:=@ite _ q (Classical.propDecidable q) (r.rem h nx) (s.rem h nx)
section
variable {q : Prop} {v u : AV} {r s : R} {h : Tr ABlk} {nx : Nat}
theorem opt_pos (hq:q):opt q v=v:=if_pos hq
theorem opt_neg (hq:¬q):opt q v=.tup []:=if_neg hq
theorem sel_pos (hq:q):sel q v u=v:=if_pos hq
theorem sel_neg (hq:¬q):sel q v u=u:=if_neg hq
theorem mergeR_pos (hq:q):mergeR q r h nx=r.rem h nx:=if_pos hq
theorem mergeR_neg (hq:¬q):mergeR q r h nx=.val (.tup []) h nx:=if_neg hq
theorem selR_pos (hq:q):selR q r s h nx=r.rem h nx:=if_pos hq
theorem selR_neg (hq:¬q):selR q r s h nx=s.rem h nx:=if_neg hq
@[go_sem] theorem opt_true:opt True v=v:=opt_pos trivial
@[go_sem] theorem sel_true:sel True v u=v:=sel_pos trivial
@[go_sem] theorem sel_false:sel False v u=u:=sel_neg id
@[congr] theorem mergeR_congr {q q':Prop}{r r':R}{h:Tr ABlk}{nx:Nat}(hq:q=q')(hr:q'→r=r'):mergeR q r h nx=mergeR q' r' h nx:=by
 subst hq
 by_cases hh:q
 ·rw[mergeR_pos hh,mergeR_pos hh,hr hh]
 ·rw[mergeR_neg hh,mergeR_neg hh]
@[congr] theorem selR_congr {q q':Prop}{r r' s s':R}{h:Tr ABlk}{nx:Nat}(hq:q=q')(hr:q'→r=r')(hs:notP q'∧¬q'→s=s'):selR q r s h nx=selR q' r' s' h nx:=by
 subst hq
 by_cases hh:q
 ·rw[selR_pos hh,selR_pos hh,hr hh]
 ·rw[selR_neg hh,selR_neg hh,hs ⟨hh,hh⟩]
@[go_sem] theorem rem_val (v:AV)(h':Tr ABlk) (nx':Nat):(R.val v h' nx').rem h nx=.val v h nx:=rfl
@[go_sem] theorem mergeR_val (v:AV)(h':Tr ABlk) (nx':Nat):mergeR q (.val v h' nx') h nx=.val (opt q v) h nx:=by
 by_cases hh:q
 ·rw[mergeR_pos hh,opt_pos hh];rfl
 ·rw[mergeR_neg hh,opt_neg hh]
@[go_sem] theorem selR_val (v u:AV)(h' h'':Tr ABlk) (nx' nx'':Nat):selR q (.val v h' nx') (.val u h'' nx'') h nx=.val (sel q v u) h nx:=by
 by_cases hh:q
 ·rw[selR_pos hh,sel_pos hh];rfl
 ·rw[selR_neg hh,sel_neg hh];rfl
open Classical in
@[go_sem] theorem sel_bool (b d:Bool):sel q (.bool b) (.bool d)=.bool (decide ((q∧b=true)∨(¬q∧d=true))):=by
 by_cases hh:q
 ·rw[sel_pos hh];simp[hh]
 ·rw[sel_neg hh];simp[hh]
end
section
variable {sz : Nat} {ops : List Oper} {K : AS → Prop} {tm : Tr AV} {h : Tr ABlk} {nx : Nat} {ds : List DE} (want : Bool) (dst : Option Tmp) (op : Op) (ty : TypeId) (pos : String) (aft : Array Edge)
def softOp (c:Cx)(op:Op):Bool:=match op with
 |.move _=>true |.assign _=>true |.pick _ _ _=>true |.build _ _=>true |.load _ _=>true |.nilCheck _=>true |.binOp _ _ _ _ _=>true |.unOp _ _ _=>true
 |.makeInterface _ _=>true |.makeFunc _ _ _=>true |.slice _ _ _ _ _=>true |.fieldAddr _ _ _=>true |.field _ _ _=>true |.indexAddr _ _ _=>true |.index _ _ _=>true
 |.lookup t _ _ _=>!isKeyT c t |.typeAssert _ _ _ _=>true |.extract _ _=>true
 |.call cl=>match cl.callee with
  |.builtin .len=>true
  |.builtin .cap=>true
  |_=>false
 |_=>false
@[go_sem] theorem soft_move (x:Operand):softOp c (.move x)=true:=by simp[softOp]
@[go_sem] theorem soft_load (t:TypeId)(x:Operand):softOp c (.load t x)=true:=by simp[softOp]
@[go_sem] theorem soft_bin (o:BinOp)(t t':TypeId)(x y:Operand):softOp c (.binOp o t x y t')=true:=by simp[softOp]
@[go_sem] theorem soft_fieldAddr (t:TypeId)(x:Operand) (k:Nat):softOp c (.fieldAddr t x k)=true:=by simp[softOp]
@[go_sem] theorem soft_indexAddr (t:TypeId)(x i:Operand):softOp c (.indexAddr t x i)=true:=by simp[softOp]
@[go_sem] theorem soft_len (args:Array Operand)(ats:Array TypeId):softOp c (.call ⟨.builtin .len,args,ats⟩)=true:=by simp[softOp]
theorem afterP_put (v:AV)(h':Tr ABlk) (nx':Nat):afterP sz dst tm ds K (.val v h' nx')=putS sz dst v (.mk tm h' nx' ds) K:=by cases dst <;> rfl
theorem soft_run (hs:softOp c op=true):awS P c sz ops ⟨dst,op,ty,pos,aft,none⟩ K (.mk tm h nx ds)=afterP sz dst tm ds K (opD c op tm h nx):=by
 cases op
 case lookup t x k ok=>
  have hk:isKeyT c t=false:=by simpa[softOp]using hs
  rw[awS_lookup,hk]
  rfl
 all_goals try (first |rfl |(cases hs;done))
 rename_i cl
 obtain⟨callee,args,ats⟩:=cl
 cases callee <;> try (cases hs;done)
 rfl
theorem soft_rem (hG:c.G.sym=true)(hs:softOp c op=true):(opD c op tm h nx).rem h nx=opD c op tm h nx:=by
 refine(opD_rem hG op ?_ (keepsN_refl _ _)).symm
 cases op <;> try (first |rfl |(cases hs;done))
 rename_i cl
 obtain⟨callee,args,ats⟩:=cl
 cases callee <;> try (cases hs;done)
 rename_i b
 cases b <;> first |rfl |(cases hs;done)
theorem guardT_m (b:Bool)(hG:c.G.sym=true)(hs:softOp c op=true):guardT P c sz ops (some (.bool b)) want dst op ty pos aft K tm h nx ds=afterP sz dst tm ds K (mergeR (b=want) (opD c op tm h nx) h nx):=by
 by_cases e:b=want
 ·simp only[guardT]
  rw[if_pos e,soft_run dst op ty pos aft hs,mergeR_pos e,soft_rem op hG hs]
 ·simp only[guardT]
  rw[if_neg e,mergeR_neg e,afterP_put]
theorem notP_eq (b:Bool):notP (b=true)=(b=false):=by cases b <;> simp[notP]
@[go_sem] theorem guardT_mt (b:Bool)(hG:c.G.sym=true)(hs:softOp c op=true):guardT P c sz ops (some (.bool b)) true dst op ty pos aft K tm h nx ds=afterP sz dst tm ds K (mergeR (b=true) (opD c op tm h nx) h nx):=guardT_m true dst op ty pos aft b hG hs
@[go_sem] theorem guardT_mf (b:Bool)(hG:c.G.sym=true)(hs:softOp c op=true):guardT P c sz ops (some (.bool b)) false dst op ty pos aft K tm h nx ds=afterP sz dst tm ds K (mergeR (notP (b=true)) (opD c op tm h nx) h nx):=by
 rw[notP_eq];exact guardT_m false dst op ty pos aft b hG hs
end
section
def pickV (v:Option AV)(a b:R)(h:Tr ABlk) (nx:Nat):R:=match v with
 |some (.bool true)=>a.rem h nx
 |some (.bool false)=>b.rem h nx
 |_=>.fail
end
section
variable {tm : Tr AV} {h : Tr ABlk} {nx : Nat}
@[go_sem high] theorem pPick_eq (x a b:Operand):pPick c x a b tm h nx=pickV (evO c.G tm x) (pMove c a tm h nx) (pMove c b tm h nx) h nx:=by
 have hm:∀a,(pMove c a tm h nx).rem h nx=pMove c a tm h nx:=fun a=>by
  unfold pMove bR
  cases evO c.G tm a <;> rfl
 unfold pPick pickV
 simp only[hm]
 cases evO c.G tm x with
 |none=>rfl
 |some v=>
  cases v <;> try rfl
  rename_i b
  cases b <;> rfl
@[go_sem] theorem pickV_bool (b:Bool)(r s:R):pickV (some (.bool b)) r s h nx=selR (b=true) r s h nx:=by
 cases b
 ·rw[selR_neg (by simp)];rfl
 ·rw[selR_pos rfl];rfl
end
@[go_sem] theorem cx_sym:cx.G.sym=true:=rfl
@[go_sem] theorem G0_sym:G0.sym=true:=rfl
@[go_sem] theorem rem_vals (v:AV)(h h':Tr ABlk) (nx nx':Nat):(R.val v h' nx').rem h nx=.val v h nx:=rfl
section
variable {sz : Nat} {ops : List Oper} {K : AS → Prop} {tm : Tr AV} {h : Tr ABlk} {nx : Nat} {ds : List DE} {b : Bool} {dst : Option Tmp} {f : Operand} {args : Array Operand} {ats : Array TypeId} {ty : TypeId} {pos : String} {aft : Array Edge} {fid : FuncId} {first cap l : List AV} {u : AV}
end
end
end Go.Ev
namespace Go.Ev
noncomputable section
variable {P : Program} {c : Cx} {σ τ υ : Sg} {h h' g f : Tr ABlk} {nx nx' ny nz sz : Nat} {ds : List DE} {w x y : World} {tm tm' : Tr AV} {a : Act} {G : Gl} {r : Option Nat}
def kept (d:Option Tmp)(tm:Tr AV)(K:AS→Prop)(s:AS):Prop:=K s∧∀t,d≠some t→s.tm.get t=tm.get t
theorem putS_keep {d:Option Tmp}{v:AV}{K:AS→Prop}(hp:putS sz d v (.mk tm h nx ds) K):putS sz d v (.mk tm h nx ds) (kept d tm K):=by
 cases d with
 |none=>exact⟨hp,fun t _=>rfl⟩
 |some d=>
  refine⟨hp.1,hp.2,fun t ht=>?_⟩
  show (tm.put d (some v)).get t=tm.get t
  rw[Tr.get_put,if_neg (fun e=>ht (by rw[e]))]
theorem awS_keep {ops:List Oper}{o:Oper}{K:AS→Prop}(hs:awS P c sz ops o K (.mk tm h nx ds)):awS P c sz ops o (kept o.dst tm K) (.mk tm h nx ds):=by
 have plainR:∀r:R,afterP sz o.dst tm ds K r→afterP sz o.dst tm ds (kept o.dst tm K) r:=by
  intro r hq
  unfold afterP at *
  cases r with
  |fail=>exact hq.elim
  |val v g ny=>exact putS_keep hq
  |unit g ny=>exact putS_keep hq
 have plain:=plainR (evPlainS c o.op tm h nx)
 have call:∀fv l,callP P c sz o.dst tm h nx ds K fv l→callP P c sz o.dst tm h nx ds (kept o.dst tm K) fv l:=by
  intro fv l hq
  unfold callP at *
  cases fv with
  |none=>exact hq.elim
  |some fv=>
   cases fv <;> try exact hq.elim
   ·cases l with
    |none=>exact hq.elim
    |some l=>exact ACall.mono hq fun v g ny q=>putS_keep q
   ·cases l with
    |none=>exact hq.elim
    |some l=>exact AYld.mono hq fun v g ny q=>putS_keep q
 unfold awS at *
 simp only at hs ⊢
 cases hw:wantA ops tm o with
 |none=>rw[hw]at hs;exact hs.elim
 |some b=>
  rw[hw]at hs
  cases b with
  |false=>exact putS_keep hs
  |true=>
   simp only at hs ⊢
   obtain⟨dst,op,type,pos,after,guard⟩:=o
   cases op <;> try exact plain hs
   case lookup t x k ok=>exact plainR _ hs
   case mapUpdate t x k v=>exact plainR _ hs
   case range t x=>
    obtain⟨m,es,cl,k,e,q1,q2,q3,q4,e1,e2,e3,e4⟩:=hs
    exact⟨m,es,cl,k,e,q1,q2,q3,q4,e1,e2,e3,putS_keep e4⟩
   case next x b=>
    cases b with
    |true=>exact hs.elim
    |false=>
     obtain⟨it,m,since,seen,st,es,cl,e1,e2,e3,e4,e5,e6,e7⟩:=hs
     exact⟨it,m,since,seen,st,es,cl,e1,e2,e3,e4,e5,fun q=>putS_keep (e6 q),fun e he hn=>putS_keep (e7 e he hn)⟩
   case entry x=>
    obtain⟨it,m,since,seen,es,cl,e,e1,e2,e3,e4,e5,e6⟩:=hs
    exact⟨it,m,since,seen,es,cl,e,e1,e2,e3,e4,e5,putS_keep e6⟩
   case call cl=>
    obtain⟨callee,args,argTypes⟩:=cl
    cases callee <;> try exact plain hs
    ·exact call _ _ hs
    ·obtain⟨t,v,f,l,e1,e2,e3,e4⟩:=hs
     exact⟨t,v,f,l,e1,e2,e3,e4.mono fun v h nx q=>putS_keep q⟩
def hideT:List (Nat×Nat×Nat)→Tr AV→Tr AV
 |[],tm=>tm
 |p::l,tm=>(hideT l tm).put p.2.2 none
def showT:List (Nat×Nat×Nat)→Tr AV→Tr AV→Tr AV
 |[],_,tm=>tm
 |p::l,tm0,tm=>(showT l tm0 tm).put p.2.2 (tm0.get p.2.2)
theorem hideT_get (t:Nat):∀(l:List (Nat×Nat×Nat))(tm:Tr AV),(hideT l tm).get t=if t∈l.map (fun p=>p.2.2) then none else tm.get t
 |[],tm=>by simp[hideT]
 |p::l,tm=>by
  rw[hideT,Tr.get_put,hideT_get t l tm]
  by_cases e:t=p.2.2
  ·simp[e]
  ·simp only[List.map_cons,List.mem_cons,e,false_or,if_false]
theorem showT_get (t:Nat):∀(l:List (Nat×Nat×Nat))(tm0 tm:Tr AV),(showT l tm0 tm).get t=if t∈l.map (fun p=>p.2.2) then tm0.get t else tm.get t
 |[],tm0,tm=>by simp[showT]
 |p::l,tm0,tm=>by
  rw[showT,Tr.get_put,showT_get t l tm0 tm]
  by_cases e:t=p.2.2
  ·simp[e]
  ·simp only[List.map_cons,List.mem_cons,e,false_or,if_false]
def showS (fl:List (Nat×Nat×Nat))(tm0:Tr AV):AS→AS
 |.mk tm h nx ds=>.mk (showT fl tm0 tm) h nx ds
def isMove (o:Oper) (t d:Nat):Bool:=match o.op,o.guard,o.dst with
 |.move (.tmp t'),none,some d'=>Nat.beq t' t && Nat.beq d' d
 |_,_,_=>false
def notDst (o:Oper) (t:Nat):Bool:=match o.dst with
 |none=>true
 |some d=>!(Nat.beq d t)
def inF (i:Nat):List (Nat×Nat×Nat)→Bool
 |[]=>false
 |p::l=>match Nat.beq i p.1 with
  |true=>true
  |false=>inF i l
def splitB (ms:List Nat)(l1 l2:List Oper)(Wl:List Nat)(fl:List (Nat×Nat×Nat)) (m2:Nat):Bool:=
 allL l1 (fun o=>match o.guard with |none=>true |some (j,_)=>Nat.ble (Nat.succ j) l1.length) &&
 allL fl (fun p=>(match l1[p.1]? with |some o=>isMove o p.2.1 p.2.2 |none=>false) && !(inL p.1 Wl) &&
  allL (upTo (l1++l2).length) (fun j=>match (l1++l2)[j]? with
   |none=>true
   |some o=>(Nat.beq j p.1 || notDst o p.2.2) && (Nat.ble j p.1 || (Nat.ble (Nat.add l1.length m2) j || notDst o p.2.1))) && allL fl (fun q=>!(Nat.beq q.2.2 p.2.1))) &&
 allL (upTo (l1++l2).length) (fun j=>match Nat.ble l1.length j with
  |false=>true
  |true=>(match (l1++l2)[j]? with
    |none=>true
    |some o=>allL o.after.toList (fun e=>match Region.binds .any e with |true=>Nat.ble (Nat.succ e.on) j |false=>true)) &&
   allL (upTo j) (fun i=>befM ms i j || (inF i fl && Nat.ble (Nat.succ j) (Nat.add l1.length m2)))) && Nat.ble 1 l2.length && Nat.ble m2 l2.length
structure SplitOk (ms:List Nat)(l1 l2:List Oper)(Wl:List Nat)(fl:List (Nat×Nat×Nat)) (m2:Nat):Prop where
 guard:∀o∈l1,∀j b,o.guard=some (j,b)→j<l1.length
 mov:∀p∈fl,∃o,l1[p.1]?=some o∧isMove o p.2.1 p.2.2=true
 nw:∀p∈fl,inL p.1 Wl=false
 dst:∀p∈fl,∀j o,(l1++l2)[j]?=some o→j≠p.1→o.dst≠some p.2.2
 src:∀p∈fl,∀j o,(l1++l2)[j]?=some o→p.1<j→j<l1.length+m2→o.dst≠some p.2.1
 src2:∀p∈fl,∀q∈fl,q.2.2≠p.2.1
 back:∀j o,l1.length≤j→(l1++l2)[j]?=some o→∀e∈o.after.toList,Region.binds .any e=true→e.on<j
 bef:∀j,l1.length≤j→j<(l1++l2).length→∀i,i<j→befM ms i j=true∨(inF i fl=true∧j<l1.length+m2)
 pos:1≤l2.length
 le:m2≤l2.length
theorem nbeq_false {a b:Nat}(h:Nat.beq a b=false):a≠b:=fun e=>by subst e;simp at h
theorem notDst_spec {o:Oper}{t:Nat}(h:notDst o t=true):o.dst≠some t:=by
 intro e
 unfold notDst at h
 rw[e]at h
 simp at h
theorem splitB_spec {ms:List Nat}{l1 l2:List Oper}{Wl:List Nat}{fl:List (Nat×Nat×Nat)}{m2:Nat}(h:splitB ms l1 l2 Wl fl m2=true):SplitOk ms l1 l2 Wl fl m2:=by
 unfold splitB at h
 simp only[Bool.and_eq_true]at h
 obtain⟨⟨⟨⟨h1,h2⟩,h3⟩,h4⟩,h5⟩:=h
 have hf:∀p∈fl,(∃o,l1[p.1]?=some o∧isMove o p.2.1 p.2.2=true)∧inL p.1 Wl=false∧(∀j o,(l1++l2)[j]?=some o→(j≠p.1→o.dst≠some p.2.2)∧(p.1<j→j<l1.length+m2→o.dst≠some p.2.1))∧∀q∈fl,q.2.2≠p.2.1:=by
  intro p hp
  have:=allL_spec h2 p hp
  simp only[Bool.and_eq_true]at this
  obtain⟨⟨⟨q1,q2⟩,q3⟩,q4⟩:=this
  refine⟨?_,by simpa using q2,fun j o ho=>?_,fun q hq=>?_⟩
  ·cases ho:l1[p.1]? with
   |none=>rw[ho]at q1;cases q1
   |some o=>rw[ho]at q1;exact⟨o,rfl,q1⟩
  ·have hlt:j<(l1++l2).length:=(List.getElem?_eq_some_iff.1 ho).1
   have:=allL_spec q3 j (List.mem_range.2 hlt)
   rw[ho]at this
   simp only[Bool.and_eq_true,Bool.or_eq_true]at this
   refine⟨fun hne=>?_,fun hlt hlt2=>?_⟩
   ·rcases this.1 with e |e
    ·exact absurd (Nat.eq_of_beq_eq_true e) hne
    ·exact notDst_spec e
   ·rcases this.2 with e |e |e
    ·have:=Nat.le_of_ble_eq_true e;omega
    ·have:l1.length+m2≤j:=Nat.le_of_ble_eq_true e
     omega
    ·exact notDst_spec e
  ·have:=allL_spec q4 q hq
   exact nbeq_false (by simpa using this)
 refine⟨fun o ho j b hg=>?_,fun p hp=>(hf p hp).1,fun p hp=>(hf p hp).2.1,fun p hp j o ho=>((hf p hp).2.2.1 j o ho).1,fun p hp j o ho=>((hf p hp).2.2.1 j o ho).2,fun p hp=>(hf p hp).2.2.2,fun j o hj ho e he hb=>?_,fun j hj hlt i hi=>?_,Nat.le_of_ble_eq_true h4,Nat.le_of_ble_eq_true h5⟩
 ·have:=allL_spec h1 o ho
  rw[hg]at this
  exact Nat.le_of_ble_eq_true this
 ·have hlt:j<(l1++l2).length:=(List.getElem?_eq_some_iff.1 ho).1
  have:=allL_spec h3 j (List.mem_range.2 hlt)
  rw[Nat.ble_eq_true_of_le hj]at this
  simp only[Bool.and_eq_true]at this
  have h6:=this.1
  rw[ho]at h6
  have:=allL_spec h6 e he
  rw[hb]at this
  exact Nat.le_of_ble_eq_true this
 ·have:=allL_spec h3 j (List.mem_range.2 hlt)
  rw[Nat.ble_eq_true_of_le hj]at this
  simp only[Bool.and_eq_true]at this
  have h6:=allL_spec this.2 i (List.mem_range.2 hi)
  simp only[Bool.or_eq_true,Bool.and_eq_true]at h6
  rcases h6 with e |⟨e1,e2⟩
  ·exact .inl e
  ·exact .inr ⟨e1,Nat.le_of_ble_eq_true e2⟩
theorem inF_spec {i:Nat}:∀{l:List (Nat×Nat×Nat)},inF i l=true→∃p∈l,p.1=i
 |[],h=>by cases h
 |p::l,h=>by
  simp only[inF]at h
  split at h
  ·rename_i e
   exact⟨p,List.mem_cons_self,(Nat.eq_of_beq_eq_true e).symm⟩
  ·obtain⟨q,h1,h2⟩:=inF_spec h
   exact⟨q,List.mem_cons_of_mem _ h1,h2⟩
structure SInv (P:Program)(c:Cx) (sz:Nat)(l1 l2:List Oper)(fl:List (Nat×Nat×Nat)) (m2:Nat)(u:Nat×Nat×Nat→AV)(K1:AS→Prop)(Kf:AS→Prop)(σ0:Sg)(h0:Tr ABlk) (n0:Nat)(w0:World)(ds:List DE)(l:Array Bool)(a:Act)(w:World):Prop where
 ex:∃m τ tm h nx,l1.length≤m∧m≤(l1++l2).length∧(∀j,l1.length≤j→j<(l1++l2).length→(l.getD j false=true↔j<m))∧
  (∀i,i<l1.length→inF i fl=false→l.getD i false=true)∧Post c.G σ0 h0 n0 w0 τ h nx w∧St τ tm a sz ds∧
  ((m<l1.length+m2∧awO P c sz (l1++l2) K1 ((l2.take m2).drop (m-l1.length)) (.mk tm h nx ds)∧(∀p∈fl,tm.get p.2.2=none∧tm.get p.2.1=some (u p)∧p.2.2<sz∧(l.getD p.1 false=true→Rel τ (u p) (a.tmps.getD p.2.2 undef)))) ∨
   (l1.length+m2≤m∧m=l1.length+m2∧K1 (.mk tm h nx ds)∧(∀p∈fl,tm.get p.2.2=none∧tm.get p.2.1=some (u p)∧p.2.2<sz∧(l.getD p.1 false=true→Rel τ (u p) (a.tmps.getD p.2.2 undef)))) ∨
   (l1.length+m2<m∧(∀i,i<l1.length→l.getD i false=true)∧awO P c sz (l1++l2) Kf (l2.drop (m-l1.length)) (.mk tm h nx ds)))
theorem wpOp_pre {ops ops2:Array Oper}{Q:Exit→Act→World→Prop}{K:Act→World→Prop}{i k:Nat}(hi:i<k)(hpre:∀j,j<k→ops2[j]?=ops[j]?)(hg:∀o,ops[i]?=some o→∀j b,o.guard=some (j,b)→j<k)
  (h:wpOpIn (fence r) 0 P ops Q i K a w):wpOpIn (fence r) 0 P ops2 Q i K a w:=by
 unfold wpOpIn at *
 rw[hpre i hi]
 cases ho:ops[i]? with
 |none=>rw[ho]at h;exact h
 |some o=>
  rw[ho]at h
  simp only at h ⊢
  have hw:Region.wanted o (yielded ops2 a.tmps)=Region.wanted o (yielded ops a.tmps):=by
   unfold Region.wanted
   cases hgd:o.guard with
   |none=>rfl
   |some p=>
    obtain⟨j,b⟩:=p
    have:yielded ops2 a.tmps j=yielded ops a.tmps j:=by
     unfold yielded
     rw[hpre j (hg o ho j b hgd)]
    simp only[this]
  rw[hw]
  exact h
end
end Go.Ev
namespace Go.Ev
noncomputable section
variable {P : Program} {c : Cx} {σ τ υ : Sg} {h h' g f : Tr ABlk} {nx nx' ny nz sz : Nat} {ds : List DE} {w x y : World} {tm tm' : Tr AV} {a : Act} {G : Gl} {r : Option Nat}
def splitK (P:Program)(c:Cx) (sz:Nat)(l1 l2:List Oper)(fl:List (Nat×Nat×Nat)) (m2:Nat)(Kf:AS→Prop)(s:AS):Prop:=match s with
 |.mk tm0 h nx ds=>(∀p∈fl,∃u,tm0.get p.2.2=some u∧tm0.get p.2.1=some u∧p.2.2<sz)∧awO P c sz (l1++l2) (fun s'=>awO P c sz (l1++l2) Kf (l2.drop m2) (showS fl tm0 s')) (l2.take m2) (.mk (hideT fl tm0) h nx ds)
theorem isMove_spec {o:Oper}{t d:Nat}(h:isMove o t d=true):o.op=.move (.tmp t)∧o.guard=none∧o.dst=some d:=by
 unfold isMove at h
 split at h
 ·rename_i t' d' e1 e2 e3
  rw[Bool.and_eq_true]at h
  rw[e1,e2,e3,Nat.eq_of_beq_eq_true h.1,Nat.eq_of_beq_eq_true h.2]
  exact⟨rfl,rfl,rfl⟩
 ·cases h
theorem ext_get {l:Array Bool}{k i:Nat}(hi:i<k):(l.extract 0 k).getD i false=l.getD i false:=by
 simp only[Array.getD_eq_getD_getElem?,Array.getElem?_extract]
 by_cases h1:i<l.size
 ·have h2:i<min k l.size:=by omega
  simp[h1,h2]
 ·have h2:¬i<min k l.size:=by omega
  simp[h1,h2]
theorem ext_out {l:Array Bool}{k i:Nat}(hi:k≤i):(l.extract 0 k).getD i false=false:=by
 simp only[Array.getD_eq_getD_getElem?]
 rw[Array.getElem?_eq_none (by simp;omega)]
 rfl
theorem ext_set {l:Array Bool}{k i:Nat}(hi:i<k):(l.setIfInBounds i true).extract 0 k=(l.extract 0 k).setIfInBounds i true:=by
 apply Array.ext_getElem?
 intro j
 simp only[Array.getElem?_extract,Array.getElem?_setIfInBounds,Array.size_extract,Array.size_setIfInBounds,Nat.zero_add,Nat.sub_zero]
 by_cases h1:j<min k l.size
 ·by_cases h2:i=j
  ·subst h2;simp[h1];omega
  ·simp[h1,h2]
 ·by_cases h2:i=j
  ·subst h2;simp[h1]
  ·simp[h1,h2]
theorem put_getDq {a:Act}{d:Option Tmp}{V:Value}{t:Nat}(h:d≠some t):(a.put d V).tmps.getD t undef=a.tmps.getD t undef:=by
 cases d with
 |none=>rfl
 |some d=>
  have:¬d=t:=fun e=>h (by rw[e])
  simp[Act.put,Array.getD_eq_getD_getElem?,this]
section
variable {l1 l2 : List Oper} {Wl : List Nat} {fl : List (Nat × Nat × Nat)} {m2 : Nat} {S : Nat → Tr AV × Tr ABlk × Nat} {v : Nat → AV} {bef : Nat → Nat → Bool} {Kf : AS → Prop}
def uOf (tm0:Tr AV)(p:Nat×Nat×Nat):AV:=(tm0.get p.2.2).getD .nilFunc
theorem toS {ms:List Nat}(X:SplitOk ms l1 l2 Wl fl m2)(R:Dr P c r sz l1.toArray S v (fun i=>inL i Wl) bef){D0:List Deferred}{l:Array Bool}{a1:Act}{w1:World}(hsz:l.size=(l1++l2).length)(I:DInv c sz l1.toArray S v (fun i=>inL i Wl) σ w D0 (l.extract 0 l1.length) a1 w1)
  (hD:RelD σ ds D0) (hnf:∀i,i<l1.length→inF i fl=false→l.getD i false=true) (hj:∀j,l1.length≤j→l.getD j false=false)
  (hq:splitK P c sz l1 l2 fl m2 Kf (.mk (S l1.length).1 (S l1.length).2.1 (S l1.length).2.2 ds)):
  SInv P c sz l1 l2 fl m2 (uOf (S l1.length).1) (fun s'=>awO P c sz (l1++l2) Kf (l2.drop m2) (showS fl (S l1.length).1 s')) Kf σ (S 0).2.1 (S 0).2.2 w ds l a1 w1:=by
 obtain⟨p,τ,hp,hp0,hpos,hpost,htm⟩:=I.pos
 have hsz1:l1.toArray.size=l1.length:=by simp
 rw[hsz1]at hp hpos htm
 have hnoW:∀j,p≤j→j<p+(l1.length-p)→inL j Wl=false:=by
  intro j h1 h2
  cases hw:inL j Wl with
  |false=>rfl
  |true=>
   have hnf':inF j fl=false:=by
    cases hf:inF j fl with
    |false=>rfl
    |true=>
     obtain⟨q,q1,q2⟩:=inF_spec hf
     have:=X.nw q q1
     rw[q2,hw]at this
     cases this
   have:=(hpos j (by omega) hw).1 (by rw[ext_get (by omega)];exact hnf j (by omega) hnf')
   omega
 have hsame:=R.same p (l1.length-p) (by rw[hsz1];omega) hnoW
 rw[Nat.add_sub_cancel' hp]at hsame
 rw[hsame]at hpost
 have htxt:=R.text l1.length (by rw[hsz1];exact Nat.le_refl _)
 have hget:∀j,l1.toArray[j]?=l1[j]?:=fun j=>List.getElem?_toArray
 have hmv:∀p∈fl,∃o,l1[p.1]?=some o∧o.op=.move (.tmp p.2.1)∧o.guard=none∧o.dst=some p.2.2:=by
  intro p hp
  obtain⟨o,h1,h2⟩:=X.mov p hp
  exact⟨o,h1,isMove_spec h2⟩
 have htm2:∀t u,¬t∈fl.map (fun p=>p.2.2)→(S l1.length).1.get t=some u→Rel τ u (a1.tmps.getD t undef):=by
  intro t u hnt e
  refine htm t u ?_
  rw[← e,htxt t]
  refine(TL_same l1.length fun j hj hd=>?_)
  show (l.extract 0 l1.length).getD j false=true
  rw[ext_get hj]
  refine hnf j hj ?_
  cases hf:inF j fl with
  |false=>rfl
  |true=>
   obtain⟨q,q1,q2⟩:=inF_spec hf
   obtain⟨o,o1,_,_,o2⟩:=hmv q q1
   rw[hget,← q2,o1]at hd
   simp only[Option.bind_some,o2]at hd
   cases hd
   exact absurd (List.mem_map.2 ⟨q,q1,rfl⟩) hnt
 have hfl:∀p∈fl,(S l1.length).1.get p.2.2=some (uOf (S l1.length).1 p)∧(S l1.length).1.get p.2.1=some (uOf (S l1.length).1 p)∧p.2.2<sz:=by
  intro p hp
  obtain⟨u,e1,e2,e3⟩:=hq.1 p hp
  have:uOf (S l1.length).1 p=u:=by unfold uOf;rw[e1];rfl
  rw[this]
  exact⟨e1,e2,e3⟩
 have facts:∀p∈fl,(hideT fl (S l1.length).1).get p.2.2=none∧(hideT fl (S l1.length).1).get p.2.1=some (uOf (S l1.length).1 p)∧p.2.2<sz∧(l.getD p.1 false=true→Rel τ (uOf (S l1.length).1 p) (a1.tmps.getD p.2.2 undef)):=by
  intro p hp
  obtain⟨e1,e2,e3⟩:=hfl p hp
  refine⟨?_,?_,e3,fun hl=>?_⟩
  ·rw[hideT_get,if_pos (List.mem_map.2 ⟨p,hp,rfl⟩)]
  ·rw[hideT_get,if_neg]
   ·exact e2
   ·intro hm
    obtain⟨q,q1,q2⟩:=List.mem_map.1 hm
    exact X.src2 p hp q q1 q2
  ·refine htm p.2.2 _ ?_
   rw[← e1,htxt p.2.2]
   refine(TL_same l1.length fun j hj hd=>?_)
   show (l.extract 0 l1.length).getD j false=true
   rw[ext_get hj]
   by_cases e:j=p.1
   ·rw[e];exact hl
   ·exfalso
    have hoj:(l1++l2)[j]?=l1[j]?:=List.getElem?_append_left hj
    rw[hget,List.getElem?_eq_getElem hj]at hd
    exact X.dst p hp j l1[j] (by rw[hoj,List.getElem?_eq_getElem hj]) e hd
 refine⟨l1.length,τ,hideT fl (S l1.length).1,(S l1.length).2.1,(S l1.length).2.2,Nat.le_refl _,by simp,fun j h1 h2=>?_,hnf,hpost,⟨fun t u e=>?_,I.size,by rw[I.defers];exact hD.mono hpost.le⟩,?_⟩
 ·rw[hj j h1]
  constructor
  ·intro e;cases e
  ·intro e;omega
 ·rw[hideT_get]at e
  split at e
  ·cases e
  ·rename_i hn
   exact htm2 t u hn e
 ·by_cases hm:m2=0
  ·subst hm
   refine .inr (.inl ⟨by omega,by omega,?_,facts⟩)
   exact hq.2
  ·exact .inl ⟨by omega,by simpa using hq.2,facts⟩
theorem stepS (hc:CxOk P c){ms:List Nat}(X:SplitOk ms l1 l2 Wl fl m2)(hmask:MaskOk (l1++l2).toArray ms)(hml:ms.length=(l1++l2).length){u:Nat×Nat×Nat→AV}{tm0:Tr AV}(hu:∀p∈fl,tm0.get p.2.2=some (u p)){σ0:Sg}{h0:Tr ABlk}{n0:Nat}{w0:World}{l:Array Bool}{a1:Act}{w1:World}{QQ:Exit→Act→World→Prop}{i:Nat}
  (hsz:l.size=(l1++l2).length) (hcl:Closed (l1++l2).toArray l) (hi:i<(l1++l2).length) (hnl:l.getD i false=false) (hdeps:∀k,dir (l1++l2).toArray k i=true→l.getD k false=true)
  (I:SInv P c sz l1 l2 fl m2 u (fun s'=>awO P c sz (l1++l2) Kf (l2.drop m2) (showS fl tm0 s')) Kf σ0 h0 n0 w0 ds l a1 w1):
  wpOpIn (fence r) 0 P (l1++l2).toArray QQ i (SInv P c sz l1 l2 fl m2 u (fun s'=>awO P c sz (l1++l2) Kf (l2.drop m2) (showS fl tm0 s')) Kf σ0 h0 n0 w0 ds (l.setIfInBounds i true)) a1 w1:=by
 obtain⟨m,τ,tm,h,nx,hkm,hmn,hlist,hpre,hpost,st,hcase⟩:=I
 have hiL:i<l.size:=by omega
 have hset:∀j,(l.setIfInBounds i true).getD j false=if j=i then true else l.getD j false:=fun j=>getD_set hiL
 have hget:∀j,(l1++l2).toArray[j]?=(l1++l2)[j]?:=fun j=>List.getElem?_toArray
 have hbefore:∀k,befM ms k i=true→l.getD k false=true:=by
  intro k hb
  unfold befM at hb
  rw[tb_eq]at hb
  obtain⟨mm,hmm⟩:∃mm,ms[i]?=some mm:=⟨_,List.getElem?_eq_getElem (by omega)⟩
  have e:ms.getD i 0=mm:=by simp[List.getD,hmm]
  rw[e]at hb
  exact hmask i mm hmm k hb l hcl hdeps
 unfold wpOpIn
 rw[hget,List.getElem?_eq_getElem hi]
 simp only
 by_cases hik:i<l1.length
 ·
  have hf:inF i fl=true:=by
   cases hf:inF i fl with
   |true=>rfl
   |false=>rw[hpre i hik hf]at hnl;cases hnl
  obtain⟨p,hp,hpi⟩:=inF_spec hf
  obtain⟨o,o1,o2⟩:=X.mov p hp
  obtain⟨m1,m3,m4⟩:=isMove_spec o2
  have ho:(l1++l2)[i]=o:=by
   have h1:(l1++l2)[i]?=some o:=by rw[List.getElem?_append_left hik,← hpi];exact o1
   rw[List.getElem?_eq_getElem hi]at h1
   exact Option.some.inj h1
  rw[ho]
  have hmid:(m<l1.length+m2∧awO P c sz (l1++l2) (fun s'=>awO P c sz (l1++l2) Kf (l2.drop m2) (showS fl tm0 s')) ((l2.take m2).drop (m-l1.length)) (.mk tm h nx ds)∨(l1.length+m2≤m∧m=l1.length+m2∧awO P c sz (l1++l2) Kf (l2.drop m2) (showS fl tm0 (.mk tm h nx ds))))∧(∀p∈fl,tm.get p.2.2=none∧tm.get p.2.1=some (u p)∧p.2.2<sz∧(l.getD p.1 false=true→Rel τ (u p) (a1.tmps.getD p.2.2 undef))):=by
   rcases hcase with⟨c1,c2,c3⟩ |⟨c1,c2,c3,c4⟩ |⟨c1,c2,c3⟩
   ·exact⟨.inl ⟨c1,c2⟩,c3⟩
   ·exact⟨.inr ⟨c1,c2,c3⟩,c4⟩
   ·rw[c2 i hik]at hnl;cases hnl
  obtain⟨hmid1,hmid2⟩:=hmid
  obtain⟨f1,f2,f3,_⟩:=hmid2 p hp
  have hwant:Region.wanted o (yielded (l1++l2).toArray a1.tmps)=true:=by unfold Region.wanted;rw[m3]
  rw[hwant]
  simp only[if_true]
  refine upon_fence (fun cl e=>by rw[m1]at e;cases e) ?_
  have hex:(execOp a1.eval o).run P w1=.ok (.value (a1.eval (.tmp p.2.1))) w1:=by
   obtain⟨dst,op,type,pos,after,guard⟩:=o
   simp only at m1
   subst m1
   rfl
  rw[hex]
  show SInv P c sz l1 l2 fl m2 u _ Kf σ0 h0 n0 w0 ds _ (a1.put o.dst (a1.eval (.tmp p.2.1))) w1
  rw[m4]
  have hV:Rel τ (u p) (a1.eval (.tmp p.2.1)):=st.tm p.2.1 (u p) f2
  have hds:p.2.2<a1.tmps.size:=by rw[st.size];exact f3
  have facts:∀q∈fl,tm.get q.2.2=none∧tm.get q.2.1=some (u q)∧q.2.2<sz∧((l.setIfInBounds i true).getD q.1 false=true→Rel τ (u q) ((a1.put (some p.2.2) (a1.eval (.tmp p.2.1))).tmps.getD q.2.2 undef)):=by
   intro q hq
   obtain⟨g1,g2,g3,g4⟩:=hmid2 q hq
   refine⟨g1,g2,g3,fun hl=>?_⟩
   by_cases e:q.2.2=p.2.2
   ·have huq:u q=u p:=by
     have h1:=hu q hq
     rw[e,hu p hp]at h1
     exact(Option.some.inj h1).symm
    rw[huq,e]
    simpa[Act.put,Array.getD_eq_getD_getElem?,hds]using hV
   ·rw[put_getDq (fun e2=>e (Option.some.inj e2).symm)]
    refine g4 ?_
    rw[hset]at hl
    by_cases e2:q.1=i
    ·exfalso
     obtain⟨o',o1',o2'⟩:=X.mov q hq
     obtain⟨_,_,m4'⟩:=isMove_spec o2'
     rw[e2,← hpi,o1]at o1'
     cases o1'
     rw[m4]at m4'
     exact e (Option.some.inj m4').symm
    ·rw[if_neg e2]at hl;exact hl
  refine⟨m,τ,tm,h,nx,hkm,hmn,fun j h1 h2=>?_,fun j h1 h2=>?_,hpost,⟨fun t' u' e=>?_,by simpa[Act.put]using st.size,st.defers⟩,?_⟩
  ·rw[hset,if_neg (by omega)]
   exact hlist j h1 h2
  ·rw[hset]
   by_cases e:j=i
   ·rw[if_pos e]
   ·rw[if_neg e];exact hpre j h1 h2
  ·have hne:some p.2.2≠some t':=fun e2=>by rw[← Option.some.inj e2,f1]at e;cases e
   rw[put_getDq hne]
   exact st.tm t' u' e
  ·rcases hmid1 with⟨c1,c2⟩ |⟨c1,c2,c3⟩
   ·exact .inl ⟨c1,c2,facts⟩
   ·exact .inr (.inl ⟨c1,c2,c3,facts⟩)
 ·have him:i=m:=by
   have h1:¬i<m:=fun hh=>by rw[(hlist i (by omega) hi).2 hh]at hnl;cases hnl
   rcases Nat.lt_or_ge m i with h2 |h2
   ·exfalso
    rcases X.bef i (by omega) hi m h2 with e |⟨e,_⟩
    ·have:=(hlist m hkm (by omega)).1 (hbefore m e)
     omega
    ·obtain⟨p,hp,hpm⟩:=inF_spec e
     obtain⟨o,o1,_⟩:=X.mov p hp
     have:=(List.getElem?_eq_some_iff.1 o1).1
     omega
   ·omega
  subst him
  have hl2:(l1++l2)[i]=l2[i-l1.length]'(by simp at hi;omega):=by
   rw[List.getElem_append_right (by omega)]
  have hlt2:i-l1.length<l2.length:=by simp at hi;omega
  have hlist':∀j,l1.length≤j→j<(l1++l2).length→((l.setIfInBounds i true).getD j false=true↔j<i+1):=by
   intro j h1 h2
   rw[hset]
   by_cases e:j=i
   ·rw[if_pos e];exact⟨fun _=>by omega,fun _=>rfl⟩
   ·rw[if_neg e,hlist j h1 h2];omega
  have hpre':∀j,j<l1.length→inF j fl=false→(l.setIfInBounds i true).getD j false=true:=by
   intro j h1 h2
   rw[hset,if_neg (by omega)]
   exact hpre j h1 h2
  have hoi:(l1++l2)[i]?=some (l1++l2)[i]:=List.getElem?_eq_getElem hi
  have hop:∀q∈fl,(l1++l2)[i].dst≠some q.2.2∧(i<l1.length+m2→(l1++l2)[i].dst≠some q.2.1):=by
   intro q hq
   obtain⟨o,o1,_⟩:=X.mov q hq
   have:=(List.getElem?_eq_some_iff.1 o1).1
   exact⟨X.dst q hq i _ hoi (by omega),X.src q hq i _ hoi (by omega)⟩
  have late:∀(tm2:Tr AV),awO P c sz (l1++l2) Kf (l2.drop (i-l1.length)) (.mk tm2 h nx ds)→St τ tm2 a1 sz ds→l1.length+m2≤i→(∀j,j<l1.length→l.getD j false=true)→
    if Region.wanted (l1++l2)[i] (yielded (l1++l2).toArray a1.tmps)=true then (l1++l2)[i].wpIn (fence r) 0 P a1 w1 (SInv P c sz l1 l2 fl m2 u (fun s'=>awO P c sz (l1++l2) Kf (l2.drop m2) (showS fl tm0 s')) Kf σ0 h0 n0 w0 ds (l.setIfInBounds i true)) QQ
    else (∀f,(l1++l2)[i].about P w1 a1.eval=some f→(fence r).fn f)∧SInv P c sz l1 l2 fl m2 u (fun s'=>awO P c sz (l1++l2) Kf (l2.drop m2) (showS fl tm0 s')) Kf σ0 h0 n0 w0 ds (l.setIfInBounds i true) (a1.put (l1++l2)[i].dst undef) w1:=by
   intro tm2 hw st2 hge hall
   rw[List.drop_eq_getElem_cons hlt2,← hl2]at hw
   have hw2:awS P c sz (l1++l2).toArray.toList (l1++l2)[i] (awO P c sz (l1++l2) Kf (l2.drop (i-l1.length+1))) (.mk tm2 h nx ds):=hw
   refine awS_ok hc (ops:=(l1++l2).toArray) hw2 hpost.ok st2 QQ _ fun υ tm1 V w2 h2 nx2 k1 p1 s1=>?_
   refine⟨i+1,υ,tm1,h2,nx2,by omega,by omega,hlist',hpre',hpost.trans p1,s1,.inr (.inr ⟨by omega,fun j hj=>by rw[hset,if_neg (by omega)];exact hall j hj,?_⟩)⟩
   rw[show i+1-l1.length=i-l1.length+1 by omega]
   exact k1
  rcases hcase with⟨c1,c2,c3⟩ |⟨c1,c2,c3,c4⟩ |⟨c1,c2,c3⟩
  ·have hdr:(l2.take m2).drop (i-l1.length)=(l1++l2)[i]::(l2.take m2).drop (i-l1.length+1):=by
    rw[List.drop_eq_getElem_cons (by simp;omega)]
    congr 1
    rw[hl2,List.getElem_take]
   rw[hdr]at c2
   have hw2:awS P c sz (l1++l2).toArray.toList (l1++l2)[i] (awO P c sz (l1++l2) (fun s'=>awO P c sz (l1++l2) Kf (l2.drop m2) (showS fl tm0 s')) ((l2.take m2).drop (i-l1.length+1))) (.mk tm h nx ds):=c2
   refine awS_ok hc (ops:=(l1++l2).toArray) (awS_keep hw2) hpost.ok st QQ _ fun υ tm1 V w2 h2 nx2 k1 p1 s1=>?_
   obtain⟨k1,k2⟩:=k1
   have facts:∀q∈fl,tm1.get q.2.2=none∧tm1.get q.2.1=some (u q)∧q.2.2<sz∧((l.setIfInBounds i true).getD q.1 false=true→Rel υ (u q) ((a1.put (l1++l2)[i].dst V).tmps.getD q.2.2 undef)):=by
    intro q hq
    obtain⟨g1,g2,g3,g4⟩:=c3 q hq
    obtain⟨n1,n2⟩:=hop q hq
    refine⟨by rw[← g1];exact k2 _ n1,by rw[← g2];exact k2 _ (n2 c1),g3,fun hl=>?_⟩
    rw[put_getDq n1]
    refine(g4 ?_).mono p1.le
    obtain⟨o,o1,_⟩:=X.mov q hq
    have:=(List.getElem?_eq_some_iff.1 o1).1
    rw[hset,if_neg (by omega)]at hl
    exact hl
   refine⟨i+1,υ,tm1,h2,nx2,by omega,by omega,hlist',hpre',hpost.trans p1,s1,?_⟩
   by_cases hlast:i+1<l1.length+m2
   ·refine .inl ⟨hlast,?_,facts⟩
    rw[show i+1-l1.length=i-l1.length+1 by omega]
    exact k1
   ·refine .inr (.inl ⟨by omega,by omega,?_,facts⟩)
    have hnil:(l2.take m2).drop (i-l1.length+1)=[]:=List.drop_of_length_le (by simp;omega)
    rw[hnil]at k1
    exact k1
  ·have hall:∀j,j<l1.length→l.getD j false=true:=by
    intro j hj
    rcases X.bef i (by omega) hi j (by omega) with e |⟨_,e⟩
    ·exact hbefore j e
    ·omega
   have st2:St τ (showT fl tm0 tm) a1 sz ds:=by
    refine⟨fun t u' e=>?_,st.size,st.defers⟩
    rw[showT_get]at e
    split at e
    ·rename_i hm
     obtain⟨q,q1,q2⟩:=List.mem_map.1 hm
     subst q2
     obtain⟨_,_,_,g4⟩:=c4 q q1
     rw[hu q q1]at e
     cases e
     obtain⟨o,o1,_⟩:=X.mov q q1
     exact g4 (hall _ (List.getElem?_eq_some_iff.1 o1).1)
    ·exact st.tm t u' e
   have c3':awO P c sz (l1++l2) Kf (l2.drop m2) (.mk (showT fl tm0 tm) h nx ds):=c3
   exact late _ (by rw[show i-l1.length=m2 by omega];exact c3') st2 c1 hall
  ·exact late _ c3 st (by omega) c2
theorem AW_split (hm:P.follows .mixedOrders=true)(hc:CxOk P c)(hG:c.G.sym=true){inr:Bool}{id:Nat}{l1 l2:List Oper}(Wl Cl:List Nat)(U:List (Nat×Nat))(fl:List (Nat×Nat×Nat)) (m2:Nat)(hstat:statD c l1 (mAcc l1 []) Wl Cl U=true)(hsp:splitB (mAcc (l1++l2) []) l1 l2 Wl fl m2=true){Q:AX→AS→Prop}{s:AS}
  (hw:awD P c sz l1 Wl Cl U (splitK P c sz l1 l2 fl m2 (Q .norm)) l1 0 (fun _=>.nil) s):AW P c inr sz (.region id (l1++l2).toArray true) Q s:=by
 intro r hi σ a w ok st
 cases s with
 |mk tm h nx ds=>
 simp only[AS.tm,AS.h,AS.nx,AS.ds]at ok st ⊢
 obtain⟨S,v,bef,hS0,q3,R⟩:=awD_Dr hc hG Wl Cl U hstat hw r
 have X:=splitB_spec hsp
 have hmask:MaskOk (l1++l2).toArray (mAcc (l1++l2) []):=mAcc_ok (l1++l2) [] (fun j m hj=>by simp at hj) fun j=>by simp
 have hml:(mAcc (l1++l2) []).length=(l1++l2).length:=by
  have key:∀(l:List Oper) (acc:List Nat),(mAcc l acc).length=acc.length+l.length:=by
   intro l
   induction l with
   |nil=>intro acc;rfl
   |cons o l ih=>
    intro acc
    show (mAcc l (acc++[moL acc o.after.toList])).length=_
    rw[ih]
    simp
    omega
  simpa using key (l1++l2) []
 refine wpIn_region_any hm ?_
 have hS0':(S 0).2.1=h∧(S 0).2.2=nx:=by rw[hS0];exact⟨rfl,rfl⟩
 have hd0:=Post.drawn ok (w.drawn+1)
 generalize hQ:AQ c.G σ h nx w sz Q=QQ
 have hsz2:(l1++l2).toArray.size=(l1++l2).length:=by simp
 have hsz1:l1.toArray.size=l1.length:=by simp
 have hget:∀j,(l1++l2).toArray[j]?=(l1++l2)[j]?:=fun j=>List.getElem?_toArray
 have hrep:∀n i,(Array.replicate n false).getD i false=false:=by
  intro n i
  simp only[Array.getD_eq_getD_getElem?,Array.getElem?_replicate]
  split <;> rfl
 have hfl:∀p∈fl,(S l1.length).1.get p.2.2=some (uOf (S l1.length).1 p):=by
  intro p hp
  obtain⟨u,e1,_,_⟩:=q3.1 p hp
  unfold uOf
  rw[e1]
  rfl
 have hback:∀i,i<(l1++l2).toArray.size→∀k,dir (l1++l2).toArray k i=true→k<i:=by
  intro i hi k hk
  rw[hsz2]at hi
  by_cases hik:i<l1.length
  ·refine R.back i (by rw[hsz1];exact hik) k ?_
   unfold dir at hk ⊢
   rw[hget,List.getElem?_append_left hik]at hk
   rw[List.getElem?_toArray]
   exact hk
  ·unfold dir at hk
   rw[hget,List.getElem?_eq_getElem hi]at hk
   simp only[Option.map_some,Option.getD_some,Array.any_eq_true']at hk
   obtain⟨e,he,hb⟩:=hk
   rw[Bool.and_eq_true]at hb
   have hon:e.on=k:=by simpa using hb.2
   rw[← hon]
   exact X.back i _ (by omega) (List.getElem?_eq_getElem hi) e (by simpa using he) hb.1
 let K1:AS→Prop:=fun s'=>awO P c sz (l1++l2) (Q .norm) (l2.drop m2) (showS fl (S l1.length).1 s')
 let I:Array Bool→Act→World→Prop:=fun l a' w'=>Closed (l1++l2).toArray l∧(((∀j,l1.length≤j→l.getD j false=false)∧DInv c sz l1.toArray S v (fun i=>inL i Wl) σ w a.defers (l.extract 0 l1.length) a' w')∨SInv P c sz l1 l2 fl m2 (uOf (S l1.length).1) K1 (Q .norm) σ (S 0).2.1 (S 0).2.2 w ds l a' w')
 have hclosed:∀(l:Array Bool) (i:Nat),i<l.size→Closed (l1++l2).toArray l→(∀k,dir (l1++l2).toArray k i=true→l.getD k false=true)→Closed (l1++l2).toArray (l.setIfInBounds i true):=by
  intro l i hiL hcl hdeps j hj k hk'
  rw[getD_set hiL]at hj ⊢
  by_cases hki:k=i
  ·rw[if_pos hki]
  ·rw[if_neg hki]
   by_cases hji:j=i
   ·subst hji;exact hdeps k hk'
   ·rw[if_neg hji]at hj
    exact hcl j hj k hk'
 refine wpAnyIn_inv I ?step ?done (l1++l2).toArray.size _ a _ (by simp) ?count ?init
 case count=>simp
 case init=>
  refine⟨(fun j hj=>by rw[hrep]at hj;cases hj),.inl ⟨fun j _=>hrep _ j,?_⟩⟩
  refine⟨(fun j hj=>by
   rcases Nat.lt_or_ge j l1.length with h1 |h1
   ·rw[ext_get h1,hrep]at hj;cases hj
   ·rw[ext_out h1]at hj;cases hj),(fun i hi=>by
   rcases Nat.lt_or_ge i l1.length with h1 |h1
   ·rw[hsz1];exact h1
   ·rw[ext_out h1]at hi;cases hi),⟨0,σ,by omega,.inl rfl,(fun j hj hw=>⟨(fun e=>by rw[ext_get (by omega),hrep]at e;cases e),(fun e=>by omega)⟩),?_,?_⟩,st.size,rfl⟩
  ·rw[hS0];exact hd0
  ·intro t u e
   have:(TL l1.toArray v (S 0).1 (lf ((Array.replicate (l1++l2).toArray.size false).extract 0 l1.length)) l1.toArray.size).get t=(S 0).1.get t:=by
    have:=TL_stay (tm:=(S 0).1) (ops:=l1.toArray) (v:=v) (l:=lf ((Array.replicate (l1++l2).toArray.size false).extract 0 l1.length)) (t:=t) 0 l1.toArray.size fun j _ hj _=>by
     show ((Array.replicate (l1++l2).toArray.size false).extract 0 l1.length).getD j false=false
     rw[ext_get (by omega),hrep]
    rw[Nat.zero_add]at this
    exact this
   rw[this,hS0]at e
   exact st.tm t u e
 case done=>
  intro l a1 w1 hs hI hr
  have hall:=all_listed hback hr hs
  have hp:=X.pos
  obtain⟨_,hI⟩:=hI
  rcases hI with⟨hA,_⟩ |hS
  ·have:=hall l1.length (by simp;omega)
   rw[hA l1.length (Nat.le_refl _)]at this
   cases this
  ·obtain⟨m,τ,tm',h',nx',hkm,hmn,hlist,hpre,hpost,st',hcase⟩:=hS
   have hmn':m=(l1++l2).length:=by
    rcases Nat.lt_or_ge m (l1++l2).length with h1 |h1
    ·have:=(hlist m hkm h1).1 (hall m (by rw[hsz2];exact h1))
     omega
    ·omega
   have hle:=X.le
   have hlen:(l1++l2).length=l1.length+l2.length:=by simp
   rw[← hQ]
   rw[hS0'.1,hS0'.2]at hpost
   rcases hcase with⟨c1,_,_⟩ |⟨c1,c2,c3,c4⟩ |⟨c1,c2,c3⟩
   ·omega
   ·have hd:l2.drop m2=[]:=List.drop_of_length_le (by omega)
    have c3':awO P c sz (l1++l2) (Q .norm) (l2.drop m2) (.mk (showT fl (S l1.length).1 tm') h' nx' ds):=c3
    rw[hd]at c3'
    refine⟨.norm,_,_,_,ds,τ,rfl,hpost,⟨fun t u' e=>?_,st'.size,st'.defers⟩,c3'⟩
    rw[showT_get]at e
    split at e
    ·rename_i hm'
     obtain⟨q,q1,q2⟩:=List.mem_map.1 hm'
     subst q2
     obtain⟨_,_,_,g4⟩:=c4 q q1
     rw[hfl q q1]at e
     cases e
     obtain⟨o,o1,_⟩:=X.mov q q1
     exact g4 (hall _ (by rw[hsz2];have:=(List.getElem?_eq_some_iff.1 o1).1;omega))
    ·exact st'.tm t u' e
   ·have hd:l2.drop (m-l1.length)=[]:=List.drop_of_length_le (by omega)
    rw[hd]at c3
    exact⟨.norm,_,_,_,ds,τ,rfl,hpost,st',c3⟩
 case step=>
  intro l a1 w1 i hs hI hi
  obtain⟨hin,hnl0,hdeps⟩:=ready_iff.1 hi
  have hiL:i<l.size:=by omega
  have hnl:l.getD i false=false:=by simpa[Array.getD,hiL]using hnl0
  rw[hsz2]at hin
  obtain⟨hcl,hI⟩:=hI
  have fromS:SInv P c sz l1 l2 fl m2 (uOf (S l1.length).1) K1 (Q .norm) σ (S 0).2.1 (S 0).2.2 w ds l a1 w1→wpOpIn (fence r) 0 P (l1++l2).toArray QQ i (I (l.setIfInBounds i true)) a1 w1:=by
   intro hS
   refine wpOpIn_mono (fun a' w' q=>⟨hclosed l i hiL hcl hdeps,.inr q⟩) (stepS hc X hmask hml hfl (by omega) hcl hin hnl hdeps hS)
  rcases hI with⟨hA,hD⟩ |hS
  ·by_cases hik:i<l1.length
   ·have hext:(l.extract 0 l1.length).size=l1.toArray.size:=by simp at hs ⊢;omega
    have hst:=R.stepI (QQ:=QQ) hext hD (i:=i) (by rw[hsz1];exact hik) (by rw[ext_get hik];exact hnl) (fun k hk=>by
     have hk2:dir (l1++l2).toArray k i=true:=by
      unfold dir at hk ⊢
      rw[hget,List.getElem?_append_left hik]
      rw[List.getElem?_toArray]at hk
      exact hk
     have hlt:=hback i (by rw[hsz2];exact hin) k hk2
     rw[ext_get (by omega)]
     exact hdeps k hk2)
    refine wpOp_pre hik (fun j hj=>by rw[hget,List.getElem?_append_left hj,List.getElem?_toArray]) (fun o ho j b hg=>X.guard o (List.mem_of_getElem? (by rw[List.getElem?_toArray]at ho;exact ho)) j b hg) (wpOpIn_mono (fun a' w' q=>⟨hclosed l i hiL hcl hdeps,.inl ⟨fun j hj=>?_,by rw[ext_set hik];exact q⟩⟩) hst)
    rw[getD_set hiL,if_neg (by omega)]
    exact hA j hj
   ·have hbefore:∀k,befM (mAcc (l1++l2) []) k i=true→l.getD k false=true:=by
     intro k hb
     unfold befM at hb
     rw[tb_eq]at hb
     obtain⟨mm,hmm⟩:∃mm,(mAcc (l1++l2) [])[i]?=some mm:=⟨_,List.getElem?_eq_getElem (by omega)⟩
     have e:(mAcc (l1++l2) []).getD i 0=mm:=by simp[List.getD,hmm]
     rw[e]at hb
     exact hmask i mm hmm k hb l hcl hdeps
    refine fromS (toS X R (by omega) hD st.defers (fun j hj hf=>?_) hA q3)
    rcases X.bef i (by omega) hin j (by omega) with e |⟨e,_⟩
    ·exact hbefore j e
    ·rw[hf]at e;cases e
  ·exact fromS hS
end
end
end Go.Ev
namespace Go.Ev
noncomputable section
variable {P : Program} {c : Cx} {σ τ υ : Sg} {h h' g f : Tr ABlk} {nx nx' ny nz sz : Nat} {ds : List DE} {w x y : World} {tm tm' : Tr AV} {a : Act} {G : Gl} {r : Option Nat}
def pi2 (i k:Nat):Nat:=if k=i then i+1 else if k=i+1 then i else k
def reE (i:Nat)(e:Edge):Edge:={ e with on:=pi2 i e.on }
def reO (i:Nat)(o:Oper):Oper:={ o with after:=o.after.map (reE i) }
def moreE (i:Nat)(o:Oper):Oper:={ o with after:=o.after.push { on:=i,ground:=.data } }
def swQ1 (i:Nat):List Oper→List Oper
 |o1::o2::t=>o1::moreE i o2::t
 |l=>l
def swQ2 (i:Nat):List Oper→List Oper
 |o1::o2::t=>reO i o2::moreE i (reO i o1)::t.map (reO i)
 |l=>l
def swL1 (i:Nat)(l:List Oper):List Oper:=l.take i++swQ1 i (l.drop i)
def swL2 (i:Nat)(l:List Oper):List Oper:=l.take i++swQ2 i (l.drop i)
section
variable {i : Nat} {l : List Oper} {Wl : List Nat}
end
theorem DInv.congr {ops:Array Oper}{S:Nat→Tr AV×Tr ABlk×Nat}{v:Nat→AV}{W:Nat→Bool}{D0:List Deferred}{l l':Array Bool}(hl:∀i,l.getD i false=l'.getD i false)(I:DInv c sz ops S v W σ w D0 l a x):DInv c sz ops S v W σ w D0 l' a x:=by
 obtain⟨i1,i2,⟨p,τ,q1,q2,q3,q4,q5⟩,i4,i5⟩:=I
 refine⟨fun j hj k hk=>by rw[← hl]at hj ⊢;exact i1 j hj k hk,fun i hi=>i2 i (by rw[hl];exact hi),⟨p,τ,q1,q2,fun j hj hw=>by rw[← hl];exact q3 j hj hw,q4,fun t u e=>q5 t u ?_⟩,i4,i5⟩
 rw[← e]
 exact TL_same _ fun j _ _=>hl j
end
end Go.Ev
