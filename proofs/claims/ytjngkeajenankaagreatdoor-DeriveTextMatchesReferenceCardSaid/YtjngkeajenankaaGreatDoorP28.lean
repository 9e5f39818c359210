/- Texts X1 CL EV EV2. -/
import Derived.Laws.LoneSync
import Derived.Lib.Bytealg
import Derived.Test.YtjngkeajenankaaGreatDoorP13
set_option linter.unusedSimpArgs false
set_option linter.unusedVariables false
set_option maxRecDepth 100000
namespace Go.Ev
open Go.Proofs Go.RowKit
noncomputable section
attribute [-go_sem] pPick lookRes evConvS
theorem own_cell {G:Gl}{σ:Sg}{h:Tr ABlk}{nx:Nat}{w:World}(hk:Ok G σ h nx w){i o b:Nat}{t:TypeId}{esz:Nat}{opn:Bool}{L:List AV}{v:AV}(hg:h.get i=some (bx t L opn esz))(hb:σ.blk i=some b)(hv:L[o]?=some v):
  ∃C fr,w.heap[b]?=some (.cells C t fr)∧(∃V,C[o]?=some V∧Rel σ v V)∧w.frozen? ⟨b,o,none⟩=false:=by
 obtain⟨b',ob,q1,q2,q3⟩:=hk.blk i _ hg
 rw[hb]at q1
 cases q1
 simp only[bx,RelB]at q3
 obtain⟨C,fr,rfl,h1,h2,h3⟩:=q3
 have ho:o<L.length:=by
  rcases Nat.lt_or_ge o L.length with q |q
  ·exact q
  ·rw[List.getElem?_eq_none q]at hv;cases hv
 obtain⟨u,V,e1,e2,e3⟩:=h1 o ho
 rw[get_putN0,hv]at e1
 cases e1
 refine⟨C,fr,q2,⟨V,e2,e3⟩,?_⟩
 have hs:o<C.size:=by
  rcases Nat.lt_or_ge o C.size with q |q
  ·exact q
  ·rw[Array.getElem?_eq_none q]at e2;cases e2
 have hf:=h2 o hs
 simp only[World.frozen?,q2]
 simp only[not_and,Nat.not_lt]at hf
 cases e4:decide (fr.1≤o) with
 |false=>simp
 |true=>simp[hf (of_decide_eq_true e4)]
theorem post_cell {G:Gl}{σ:Sg}{h:Tr ABlk}{nx:Nat}{w:World}(hk:Ok G σ h nx w){i o b:Nat}{t:TypeId}{esz:Nat}{opn:Bool}{L:List AV}(hg:h.get i=some (bx t L opn esz))(hb:σ.blk i=some b)(ho:o<L.length){u:AV}{U:Value}(hu:Rel σ u U):
  Post G σ h nx w σ (h.put i (some (bx t (L.set o u) opn esz))) nx (w.setCell ⟨b,o,none⟩ U):=by
 obtain⟨b',ob,q1,q2,q3⟩:=hk.blk i _ hg
 rw[hb]at q1
 cases q1
 simp only[bx,RelB]at q3
 obtain⟨C,fr,rfl,h1,h2,h3⟩:=q3
 have hlt:=hk.blt hg hb
 have hset:w.setCell ⟨b,o,none⟩ U={ w with heap:=w.heap.setIfInBounds b (.cells (C.setIfInBounds o U) t fr) }:=by
  unfold World.setCell
  congr 1
  apply Array.ext_getElem?
  intro j
  rw[Array.getElem?_modify,Array.getElem?_setIfInBounds]
  by_cases ej:b=j
  ·subst ej
   rw[if_pos rfl,if_pos rfl,if_pos hlt,q2]
   simp
  ·rw[if_neg ej,if_neg ej]
 rw[hset]
 refine Post.set hk hg hb _ _ ?_
 simp only[bx,RelB]
 refine⟨_,fr,rfl,fun j hj=>?_,fun j hj=>h2 j (by simpa using hj),?_⟩
 ·rw[List.length_set]at hj
  rw[get_putN0,List.getElem?_set,Array.getElem?_setIfInBounds]
  obtain⟨v,V,e1,e2,e3⟩:=h1 j hj
  have hs:j<C.size:=by
   rcases Nat.lt_or_ge j C.size with q |q
   ·exact q
   ·rw[Array.getElem?_eq_none q]at e2;cases e2
  by_cases e:o=j
  ·subst e
   rw[if_pos rfl,if_pos rfl,if_pos ho,if_pos hs]
   exact⟨_,_,rfl,rfl,hu⟩
  ·rw[if_neg e,if_neg e]
   rw[get_putN0]at e1
   exact⟨v,V,e1,e2,e3⟩
 ·simpa using h3
section
variable {h : Tr ABlk} {nx i o esz : Nat} {t : TypeId} {opn : Bool} {L : List AV} {R : AV → Tr ABlk → Nat → Prop}
theorem mark0_c {P:Program}{c:Cx}{f:FuncId}(hrun:∀w,(callFunc f #[]).run P w=.ok (.value (.tuple #[])) w)(hR:R (.tup []) h nx):ACall P c f [] h nx R:=by
 intro σ w A hk hA
 simp only[RelL]at hA
 subst hA
 unfold CR
 rw[hrun w]
 exact⟨σ,.tup [],h,nx,by simp only[Rel,RelL];exact⟨[],rfl,rfl⟩,.refl hk,hR⟩
theorem marked_c {P:Program}{c:Cx}{f:FuncId}(hrun:∀a w,(callFunc f #[.pointer (some a)]).run P w=.ok (.value (.tuple #[])) w)(hR:R (.tup []) h nx):ACall P c f [.ptr i o] h nx R:=by
 intro σ w A hk hA
 simp only[RelL,Rel]at hA
 obtain⟨V,A1,rfl,⟨b,hb,rfl⟩,rfl⟩:=hA
 unfold CR
 rw[hrun ⟨b,o,none⟩ w]
 exact⟨σ,.tup [],h,nx,by simp only[Rel,RelL];exact⟨[],rfl,rfl⟩,.refl hk,hR⟩
theorem load_c {P:Program}{c:Cx}{f:FuncId}{k:IntKind}{x:Int}(hrun:∀{a:Addr}{w:World},w.cell? a=some (.int k x)→(callFunc f #[.pointer (some a)]).run P w=.ok (.value (.int k x)) w)
  (hg:h.get i=some (bx t L opn esz)) (hv:L[o]?=some (.int k x)) (hR:R (.int k x) h nx):ACall P c f [.ptr i o] h nx R:=by
 intro σ w A hk hA
 simp only[RelL,Rel]at hA
 obtain⟨V,A1,rfl,⟨b,hb,rfl⟩,rfl⟩:=hA
 obtain⟨C,fr,q1,⟨V,q2,q3⟩,q4⟩:=own_cell hk hg hb hv
 simp only[Rel]at q3
 subst q3
 unfold CR
 rw[hrun (a:=⟨b,o,none⟩) (by rw[cell_at q1];exact q2)]
 exact⟨σ,.int k x,h,nx,by simp only[Rel],.refl hk,hR⟩
theorem lt_of_get {α:Type}{l:List α}{o:Nat}{v:α}(hv:l[o]?=some v):o<l.length:=by
 rcases Nat.lt_or_ge o l.length with q |q
 ·exact q
 ·rw[List.getElem?_eq_none q]at hv;cases hv
theorem write_c' {P:Program}{c:Cx}{f:FuncId}{k:IntKind}{x:Int}{u u':AV}{U U':Value}{rest:List AV}{RA:List Value}(hrest:∀σ A,RelL σ rest A→A=RA)(hu:∀σ,Rel σ u U)(hu':∀σ,Rel σ u' U')
  (hrun:∀{a:Addr} {w:World},w.cell? a=some (.int k x)→w.frozen? a=false→(callFunc f (.pointer (some a)::RA).toArray).run P w=.ok (.value U) (w.setCell a U'))
  (hg:h.get i=some (bx t L opn esz)) (hv:L[o]?=some (.int k x)) (hR:R u (h.put i (some (bx t (L.set o u') opn esz))) nx):ACall P c f (.ptr i o::rest) h nx R:=by
 intro σ w A hk hA
 simp only[RelL,Rel]at hA
 obtain⟨V,A1,rfl,⟨b,hb,rfl⟩,hr⟩:=hA
 have:=hrest σ A1 hr
 subst this
 obtain⟨C,fr,q1,⟨V,q2,q3⟩,q4⟩:=own_cell hk hg hb hv
 simp only[Rel]at q3
 subst q3
 unfold CR
 rw[hrun (a:=⟨b,o,none⟩) (by rw[cell_at q1];exact q2) q4]
 exact⟨σ,u,_,nx,hu σ,post_cell hk hg hb (lt_of_get hv) (hu' σ),hR⟩
end
theorem disable_c {h:Tr ABlk}{nx:Nat}{R:AV→Tr ABlk→Nat→Prop}(hR:R (.tup []) h nx):ACall Tryz.prog cx 230 [] h nx R:=
 mark0_c (fun w=>run_call_mark0 (fn:=Tryz.f230) (by kernel_rfl) (by kernel_rfl) (by kernel_rfl) (by kernel_rfl) .disable (by kernel_rfl) w) hR
theorem enable_c {h:Tr ABlk}{nx:Nat}{R:AV→Tr ABlk→Nat→Prop}(hR:R (.tup []) h nx):ACall Tryz.prog cx 232 [] h nx R:=
 mark0_c (fun w=>run_call_mark0 (fn:=Tryz.f232) (by kernel_rfl) (by kernel_rfl) (by kernel_rfl) (by kernel_rfl) .enable (by kernel_rfl) w) hR
theorem acquire_c {h:Tr ABlk}{nx i o:Nat}{R:AV→Tr ABlk→Nat→Prop}(hR:R (.tup []) h nx):ACall Tryz.prog cx 233 [.ptr i o] h nx R:=
 marked_c (fun a w=>run_call_marked (fn:=Tryz.f233) (by kernel_rfl) (by kernel_rfl) (by kernel_rfl) (by kernel_rfl) .acquire (by kernel_rfl) a w) hR
theorem merge_c {h:Tr ABlk}{nx i o:Nat}{R:AV→Tr ABlk→Nat→Prop}(hR:R (.tup []) h nx):ACall Tryz.prog cx 235 [.ptr i o] h nx R:=
 marked_c (fun a w=>run_call_marked (fn:=Tryz.f235) (by kernel_rfl) (by kernel_rfl) (by kernel_rfl) (by kernel_rfl) .releaseMerge (by kernel_rfl) a w) hR
section
variable {h : Tr ABlk} {nx i o esz : Nat} {t : TypeId} {opn : Bool} {L : List AV} {R : AV → Tr ABlk → Nat → Prop}
theorem loadU_c {x:Int}(hg:h.get i=some (bx t L opn esz))(hv:L[o]?=some (.int .u32 x))(hR:R (.int .u32 x) h nx):ACall Tryz.prog cx 126 [.ptr i o] h nx R:=
 load_c (fun hc=>run_call_load (fn:=Tryz.f126) (by kernel_rfl) (by kernel_rfl) (by kernel_rfl) (by kernel_rfl) .u32 (by kernel_rfl) hc) hg hv hR
theorem storeU_c {x y:Int}(hg:h.get i=some (bx t L opn esz))(hv:L[o]?=some (.int .u32 x))(hR:R (.tup []) (h.put i (some (bx t (L.set o (.int .u32 y)) opn esz))) nx):ACall Tryz.prog cx 172 [.ptr i o,.int .u32 y] h nx R:=
 write_c' (RA:=[.int .u32 y]) (U:=.tuple #[]) (U':=.int .u32 y) (fun σ A hA=>by simp only[RelL,Rel]at hA;obtain⟨_,_,rfl,rfl,rfl⟩:=hA;rfl) (fun σ=>by simp only[Rel,RelL];exact⟨[],rfl,rfl⟩) (fun σ=>by simp only[Rel])
  (fun hc hz=>run_call_store (fn:=Tryz.f172) (by kernel_rfl) (by kernel_rfl) (by kernel_rfl) (by kernel_rfl) (by kernel_rfl) hc hz) hg hv hR
theorem cas_c (hg:h.get i=some (bx t L opn esz))(hv:L[o]?=some (.int .i32 0))(hR:R (.bool true) (h.put i (some (bx t (L.set o (.int .i32 1)) opn esz))) nx):ACall Tryz.prog cx 231 [.ptr i o,.int .i32 0,.int .i32 1] h nx R:=
 write_c' (RA:=[.int .i32 0,.int .i32 1]) (U:=.bool true) (U':=.int .i32 1) (fun σ A hA=>by simp only[RelL,Rel]at hA;obtain⟨_,_,rfl,rfl,_,_,rfl,rfl,rfl⟩:=hA;rfl) (fun σ=>by simp only[Rel]) (fun σ=>by simp only[Rel])
  (fun hc hz=>run_call_cas_hit (fn:=Tryz.f231) (by kernel_rfl) (by kernel_rfl) (by kernel_rfl) (by kernel_rfl) .i32 (by kernel_rfl) hc hz) hg hv hR
theorem addI_c (hg:h.get i=some (bx t L opn esz))(hv:L[o]?=some (.int .i32 1))(hR:R (.int .i32 0) (h.put i (some (bx t (L.set o (.int .i32 0)) opn esz))) nx):ACall Tryz.prog cx 236 [.ptr i o,.int .i32 (-1)] h nx R:=
 write_c' (RA:=[.int .i32 (-1)]) (U:=.int .i32 0) (U':=.int .i32 0) (fun σ A hA=>by simp only[RelL,Rel]at hA;obtain⟨_,_,rfl,rfl,rfl⟩:=hA;rfl) (fun σ=>by simp only[Rel]) (fun σ=>by simp only[Rel])
  (fun hc hz=>run_call_add (fn:=Tryz.f236) (by kernel_rfl) (by kernel_rfl) (by kernel_rfl) (by kernel_rfl) .i32 (by kernel_rfl) hc hz (by simp[go_sem];rfl)) hg hv hR
end
theorem countB_c (s:ByteArray)(b:UInt8)(f:FuncId)(hf:f=416):Ret Tryz.prog cx f [.bs s,.int .u8 (b.toNat:Int)] (.int .i64 (Lib.countByte s.data.toList b:Nat)):=by
 intro h nx σ w A hk hA
 simp only[RelL,Rel]at hA
 obtain⟨V,A1,rfl,rfl,V2,A2,rfl,rfl,rfl⟩:=hA
 unfold CR
 subst hf
 rw[xok_of' (e:=Extern.BytealgCount.count) (fn:=Tryz.f416) (by kernel_rfl) (by kernel_rfl) (by kernel_rfl) (by kernel_rfl) (by kernel_rfl)]
 rw[show (Extern.BytealgCount.count [Value.string s,Value.int .u8 (b.toNat:Int)].toArray).run Tryz.prog w=_ from Lib.run_countString s (b.toNat:Int) w]
 have e:((b.toNat:Int)).toNat.toUInt8=b:=by simp
 rw[e]
 exact⟨σ,_,h,nx,by simp only[Rel],.refl hk,rfl,rfl,rfl⟩
end
end Go.Ev
namespace Go.Ev
noncomputable section
variable {P : Program} {G : Gl} {c : Cx} {σ τ υ : Sg} {h g f : Tr ABlk} {nx ny nz sz : Nat} {w x y : World} {tm tm' : Tr AV} {a : Act}
def evClear (ti:TI)(te:Option TI)(et:TypeId)(x:AV)(h:Tr ABlk) (nx:Nat):R:=
 match ti,te with
 |.mk (.slice e) _ _ _ _,some (.mk _ _ _ (some z) _)=>match Nat.beq e et with
  |false=>.fail
  |true=>match x with
   |.sl i o len _ _=>match h.get i with
    |some (.cells e' n c opn esz)=>match Nat.ble 1 len with
     |false=>.fail
     |true=>match allOne (repL z.cells len) with
      |false=>.fail
      |true=>match Nat.ble (Nat.add o (repL z.cells len).length) n with
       |true=>putNK (repL z.cells len) c o fun c'=>h.putK (some (.cells e' n c' opn esz)) i fun h'=>.val (.tup []) h' nx
       |false=>.fail
    |_=>.fail
   |_=>.fail
 |_,_=>.fail
theorem evClear_ok (hk:Ok G σ h nx w)(t:TypeId){ti:TI}(ht:TIok P t ti){te:Option TI}{et:TypeId}(hte:∀ti,te=some ti→TIok P et ti)(ts:Array TypeId)(hts:ts[0]?=some t)(ty:TypeId){d:AV}{D:Value}(hd:Rel σ d D):
  RV P G σ h nx w (Builtin.clear_ ts ty #[D]) (evClear ti te et d h nx):=by
 unfold evClear
 split
 ·rename_i e q1 q2 q3 q4 de size q5 z q7
  obtain⟨hu,hu2⟩:=ht
  clear hu2
  obtain⟨hue,inf,hi,hsz,hby,hzz,hze⟩:=hte _ rfl
  obtain⟨Z,hZ,hzr,hzs⟩:=hzz z rfl
  clear hze
  cases hbe:Nat.beq e et with
  |false=>trivial
  |true=>
  have:=Nat.eq_of_beq_eq_true hbe
  subst this
  simp only
  cases d <;> try trivial
  rename_i i o len cc opn
  simp only[Rel]at hd
  obtain⟨b,hb,e1,_⟩:=hd
  subst e1
  simp only
  cases hg:h.get i with
  |none=>trivial
  |some B=>
  cases B with
  |map _ _=>trivial
  |loop _ _ _ _ _ _ _ _ _=>trivial
  |dfr=>trivial
  |miter _ _ _ _=>trivial
  |siter _ _=>trivial
  |cells e' n c' opn' esz=>
  simp only
  cases hl1:Nat.ble 1 len with
  |false=>trivial
  |true=>
  have hl1':=Nat.le_of_ble_eq_true hl1
  simp only
  cases hone:allOne (repL z.cells len) with
  |false=>trivial
  |true=>
  simp only
  cases hle:Nat.ble (Nat.add o (repL z.cells len).length) n with
  |false=>trivial
  |true=>
  have hle':o+(repL z.cells len).length≤n:=Nat.le_of_ble_eq_true hle
  obtain⟨b',C,fr,hb',hheap,hcell,hfr,hCsz⟩:=hk.cells hg
  rw[hb]at hb'
  cases hb'
  have hnC:n≤C.size:=by split at hCsz <;> omega
  simp only[putNK_eq,Tr.putK_eq]
  have hrl:=rep_ok (hzr σ).cells len
  have hL:=hrl.length
  have hst:=run_storeN (P:=P) (b:=b) (o:=o) _ 0 C w hheap (by rw[hL];omega) hfr (allOne_spec hone hrl)
  simp only[Nat.add_zero]at hst
  refine⟨.tuple #[],σ,_,?_,by simp only[Rel];exact⟨[],rfl,by simp only[RelL]⟩,store_ok hk hg hrl (by omega) hb hheap⟩
  obtain⟨m,rfl⟩:∃m,len=m+1:=⟨len-1,by omega⟩
  simp only[Array.toList_map,Array.toList_range]at hst
  simp[Builtin.clear_,hts,run_underlying hu,run_zero hi hZ,Builtin.zeroCells,hst]
 ·trivial
def evClr (c:Cx)(cl:Call)(tm:Tr AV)(h:Tr ABlk) (nx:Nat):R:=match cl with
 |.mk (.builtin .clear) args argTypes=>match argTypes.toList,args.toList with
  |[t],[x]=>bR (c.tt.get t) fun ti=>bR (evO c.G tm x) fun v=>evClear ti (c.tt.get (elemT ti)) (elemT ti) v h nx
  |_,_=>.fail
 |_=>.fail
theorem evClr_ok (hc:CxOk P c)(hk:Ok c.G σ h nx w)(ht:TmOk σ tm a){dst:Option Tmp}{cl:Call}{type:TypeId}{pos:String}{after:Array Edge}{guard:Option (Nat×Bool)}:RO P c.G σ h nx w (execOp a.eval ⟨dst,.call cl,type,pos,after,guard⟩) (evClr c cl tm h nx):=by
 unfold evClr
 split
 ·rename_i args argTypes
  split
  ·rename_i t x e1 e2
   refine bR_ok fun ti e3=>bR_ok fun v e4=>?_
   have h1:args=#[x]:=by apply Array.ext';simpa using e2
   have h2:argTypes=#[t]:=by apply Array.ext';simpa using e1
   subst h1
   subst h2
   have e5:execOp a.eval ⟨dst,.call ⟨.builtin .clear,#[x],#[t]⟩,type,pos,after,guard⟩=(do pure (.value (← Builtin.clear_ #[t] type (#[x].map a.eval)))):=rfl
   rw[e5,show (#[x]:Array Operand).map a.eval=#[a.eval x] by simp]
   exact RO.ofV (evClear_ok hk t (hc.tt _ _ e3) (hc.tt _) #[t] rfl type (evO_ok hk ht e4))
  ·trivial
 ·trivial
def evSR (c:Cx)(t:TypeId)(x:Operand)(tm:Tr AV)(h:Tr ABlk) (nx:Nat):R:=match c.tt.get t with
 |some (.mk .string _ _ _ _)=>match evO c.G tm x with
  |some (.str l n)=>fN (Nat.succ nx) fun n1=>h.putK (some (.siter (strB l n) 0)) nx fun h=>.val (.ptr nx 0) h n1
  |_=>.fail
 |_=>.fail
def evSN (c:Cx)(x:Operand)(tm:Tr AV)(h:Tr ABlk) (nx:Nat):R:=match evO c.G tm x with
 |some (.ptr i o)=>match Nat.beq o 0 with
  |false=>.fail
  |true=>match h.get i with
   |some (.siter s pos)=>match Nat.ble (Nat.succ pos) s.size with
    |false=>.val (.tup [.bool false]) h nx
    |true=>match Utf8.decode s pos with
     |(ch,wd)=>fN (Nat.add pos wd) fun p=>fN ch fun ch=>h.putK (some (.siter s p)) i fun h=>.val (.tup [.bool true,.int .i64 (.ofNat pos),.int .i32 (.ofNat ch)]) h nx
   |_=>.fail
 |_=>.fail
theorem evSR_ok (hc:CxOk P c)(hk:Ok c.G σ h nx w)(ht:TmOk σ tm a){dst:Option Tmp}{t:TypeId}{x:Operand}{type:TypeId}{pos:String}{after:Array Edge}{guard:Option (Nat×Bool)}:RO P c.G σ h nx w (execOp a.eval ⟨dst,.range t x,type,pos,after,guard⟩) (evSR c t x tm h nx):=by
 unfold evSR
 split
 ·rename_i q1 q2 q3 q4 htt
  split
  ·rename_i l n hx
   have hX:=evO_ok hk ht hx
   simp only[Rel]at hX
   obtain⟨_,eX⟩:=hX
   have hu:P.underlying t=some .string:=(hc.tt t _ htt).1
   rw[fN_eq,Tr.putK_eq]
   have e5:execOp a.eval ⟨dst,.range t x,type,pos,after,guard⟩=(do pure (.value (← Instr.range t (a.eval x)))):=rfl
   rw[e5]
   refine RO.ofV ⟨.pointer (some ⟨w.heap.size,0,none⟩),σ.add nx w.heap.size 0,_,?_,?_,Post.alloc hk 0 (.siter (strB l n) 0) (.stringIter (strB l n) 0) (by simp only[RelB])⟩
   ·rw[eX]
    simp[Instr.range,run_underlying hu,newObj,Sem.run]
   ·simp only[Rel]
    exact⟨w.heap.size,by simp[Sg.add],rfl⟩
  ·trivial
 ·trivial
theorem evSN_ok (hk:Ok c.G σ h nx w)(ht:TmOk σ tm a){dst:Option Tmp}{x:Operand}{type:TypeId}{pos:String}{after:Array Edge}{guard:Option (Nat×Bool)}:RO P c.G σ h nx w (execOp a.eval ⟨dst,.next x true,type,pos,after,guard⟩) (evSN c x tm h nx):=by
 unfold evSN
 split
 ·rename_i i o hx
  have hX:=evO_ok hk ht hx
  cases ho:Nat.beq o 0 with
  |false=>trivial
  |true=>
  have:=Nat.eq_of_beq_eq_true ho
  subst this
  simp only
  split
  ·rename_i s p hg
   simp only[Rel]at hX
   obtain⟨b,hb,eX⟩:=hX
   obtain⟨r,O,hr,hO,hB⟩:=hk.blk i _ hg
   rw[hb]at hr
   cases hr
   simp only[RelB]at hB
   subst hB
   have e5:execOp a.eval ⟨dst,.next x true,type,pos,after,guard⟩=(do pure (.value (← Instr.next (a.eval x) true type))):=rfl
   rw[e5,eX]
   have hgo:(getObj b).run P w=.ok (.stringIter s p) w:=by simp[getObj,Sem.run,hO]
   have hso:∀o:Obj,(setObj b o).run P w=.ok () (wset w b o):=fun o=>by simp[setObj,Sem.run,hO,wset]
   cases hle:Nat.ble (Nat.succ p) s.size with
   |false=>
    have hlt:¬p<s.size:=fun q=>by have:=Nat.ble_eq_true_of_le (show Nat.succ p≤s.size from q);rw[hle]at this;cases this
    simp only
    refine RO.ofV (SV.pure hk (V:=.tuple #[.bool false]) ?_ ?_)
    ·simp[Instr.next,hgo,hlt]
    ·simp only[Rel]
     exact⟨[.bool false],rfl,by simp only[RelL,Rel];exact⟨_,[],rfl,rfl,rfl⟩⟩
   |true=>
    have hlt:p<s.size:=Nat.le_of_ble_eq_true hle
    simp only
    cases hd:Utf8.decode s p with
    |mk ch wd=>
    simp only[fN_eq,Tr.putK_eq]
    refine RO.ofV ⟨.tuple #[.bool true,goInt p,.int .i32 ch],σ,_,?_,?_,Post.set hk hg hb (.siter s (p+wd)) (.stringIter s (p+wd)) (by simp only[RelB])⟩
    ·simp[Instr.next,hgo,hlt,hd,hso]
     rfl
    ·simp only[Rel]
     exact⟨_,rfl,by simp only[RelL,Rel];exact⟨_,_,rfl,rfl,_,_,rfl,rfl,_,_,rfl,rfl,rfl⟩⟩
  ·trivial
 ·trivial
def evMR (c:Cx)(t:TypeId)(x:Operand)(tm:Tr AV)(h:Tr ABlk) (nx:Nat):R:=match c.tt.get t with
 |some (.mk (.map _ _) _ _ _ _)=>match evO c.G tm x with
  |some (.map m)=>match h.get m with
   |some (.map _ cl)=>fN (Nat.succ nx) fun n1=>h.putK (some (.miter m cl [] cl)) nx fun h=>.val (.ptr nx 0) h n1
   |_=>.fail
  |_=>.fail
 |_=>.fail
def evMN (c:Cx)(x:Operand)(tm:Tr AV)(h:Tr ABlk) (nx:Nat):R:=match evO c.G tm x with
 |some (.ptr i o)=>match Nat.beq o 0 with
  |false=>.fail
  |true=>match h.get i with
   |some (.miter m since _ st)=>match h.get m with
    |some (.map es _)=>match es with
     |[]=>match Nat.ble since st with
      |true=>.val (.tup [.bool false]) h nx
      |false=>.fail
     |_=>.fail
    |_=>.fail
   |_=>.fail
 |_=>.fail
theorem evMR_ok (hc:CxOk P c)(hk:Ok c.G σ h nx w)(ht:TmOk σ tm a){dst:Option Tmp}{t:TypeId}{x:Operand}{type:TypeId}{pos:String}{after:Array Edge}{guard:Option (Nat×Bool)}:RO P c.G σ h nx w (execOp a.eval ⟨dst,.range t x,type,pos,after,guard⟩) (evMR c t x tm h nx):=by
 unfold evMR
 split
 ·rename_i k e q1 q2 q3 q4 htt
  split
  ·rename_i m hx
   split
   ·rename_i es cl e2
    have hX:=evO_ok hk ht hx
    simp only[Rel]at hX
    obtain⟨b,hb,eX⟩:=hX
    obtain⟨b',E,hb',ho,hE⟩:=hk.mapB e2
    rw[hb]at hb'
    cases hb'
    have hu:P.underlying t=some (.map k e):=(hc.tt t _ htt).1
    rw[fN_eq,Tr.putK_eq]
    have e5:execOp a.eval ⟨dst,.range t x,type,pos,after,guard⟩=(do pure (.value (← Instr.range t (a.eval x)))):=rfl
    rw[e5]
    refine RO.ofV ⟨.pointer (some ⟨w.heap.size,0,none⟩),σ.add nx w.heap.size 0,_,?_,?_,Post.alloc hk 0 (.miter m cl [] cl) (.mapIter (some b) cl #[] cl) ?_⟩
    ·rw[eX]
     simp[run_range_map w t k e b E.toArray cl hu ho]
    ·simp only[Rel]
     exact⟨w.heap.size,by simp[Sg.add],rfl⟩
    ·simp only[RelB]
     refine⟨b,?_,rfl⟩
     have:m≠nx:=by have:=hk.lt e2;omega
     simp[Sg.add,this,hb]
   ·trivial
  ·trivial
 ·trivial
theorem evMN_ok (hk:Ok c.G σ h nx w)(ht:TmOk σ tm a){dst:Option Tmp}{x:Operand}{type:TypeId}{pos:String}{after:Array Edge}{guard:Option (Nat×Bool)}:RO P c.G σ h nx w (execOp a.eval ⟨dst,.next x false,type,pos,after,guard⟩) (evMN c x tm h nx):=by
 unfold evMN
 split
 ·rename_i i o hx
  have hX:=evO_ok hk ht hx
  cases ho:Nat.beq o 0 with
  |false=>trivial
  |true=>
  have:=Nat.eq_of_beq_eq_true ho
  subst this
  simp only
  split
  ·rename_i m since seen st e2
   split
   ·rename_i es cl e3
    split
    ·cases hle:Nat.ble since st with
     |false=>trivial
     |true=>
     simp only[Rel]at hX
     obtain⟨r,hr,eX⟩:=hX
     obtain⟨r',b,hr',hb,ho⟩:=hk.iterB e2
     rw[hr]at hr'
     cases hr'
     obtain⟨b',E,hb',hom,hE⟩:=hk.mapB e3
     rw[hb]at hb'
     cases hb'
     have hE0:E=[]:=hE
     subst hE0
     have e5:execOp a.eval ⟨dst,.next x false,type,pos,after,guard⟩=(do pure (.value (← Instr.next (a.eval x) false type))):=rfl
     rw[e5,eX]
     refine RO.ofV (SV.pure hk (V:=.tuple #[.bool false]) ?_ ?_)
     ·rcases run_next_at (P:=P) w type r b since st seen.toArray #[] cl ho hom (fun X hX=>by simp at hX) (Nat.le_of_ble_eq_true hle) with⟨h1,h2⟩ |⟨X,hX,_⟩
      ·exact h2
      ·simp[leftOf]at hX
     ·simp only[Rel]
      exact⟨[.bool false],rfl,by simp only[RelL,Rel];exact⟨_,[],rfl,rfl,rfl⟩⟩
    ·trivial
   ·trivial
  ·trivial
 ·trivial
end
end Go.Ev
namespace Go.Ev
inductive CO where
 |ok (v:AV) (h:Tr ABlk) (nx:Nat)
 |fail
inductive OS where
 |ok (tm:Tr AV) (h:Tr ABlk) (nx:Nat)
 |fail
inductive ER where
 |norm (tm:Tr AV) (h:Tr ABlk) (nx:Nat) (ds:List DE)
 |exit (id:Nat) (tm:Tr AV) (h:Tr ABlk) (nx:Nat) (ds:List DE)
 |ret (tm:Tr AV) (h:Tr ABlk) (nx:Nat) (ds:List DE)
 |fail
abbrev Ca:=FuncId→List AV→Tr ABlk→Nat→CO
abbrev Ya:=Nat→List AV→Tr ABlk→Nat→CO
def eqQ (v:AV)(g:Tr ABlk) (ny:Nat):AV→Tr ABlk→Nat→Prop:=fun v' g' ny'=>v'=v∧g'=g∧ny'=ny
def CaOk (P:Program)(c:Cx)(ca:Ca):Prop:=∀f args h nx v g ny,ca f args h nx=.ok v g ny→ACall P c f args h nx (eqQ v g ny)
def YaOk (P:Program)(c:Cx)(ya:Ya):Prop:=∀i args h nx v g ny,ya i args h nx=.ok v g ny→AYld P c i args h nx (eqQ v g ny)
noncomputable section
def putT (sz:Nat)(d:Option Tmp)(v:AV)(tm:Tr AV)(k:Tr AV→OS):OS:=
 match d with
 |none=>k tm
 |some d=>match Nat.ble (Nat.succ d) sz with
  |true=>tm.putK (some v) d k
  |false=>.fail
def afterR (sz:Nat)(dst:Option Tmp)(tm:Tr AV)(k:Tr AV→Tr ABlk→Nat→OS)(r:R):OS:=
 match r with
 |.val v h nx=>putT sz dst v tm fun tm=>k tm h nx
 |.unit h nx=>putT sz dst (.tup []) tm fun tm=>k tm h nx
 |.fail=>.fail
def afterC (sz:Nat)(dst:Option Tmp)(tm:Tr AV)(k:Tr AV→Tr ABlk→Nat→OS)(r:CO):OS:=
 match r with
 |.ok v h nx=>putT sz dst v tm fun tm=>k tm h nx
 |.fail=>.fail
def callF (ca:Ca)(ya:Ya)(f:Option AV)(l:Option (List AV))(h:Tr ABlk) (nx:Nat):CO:=
 match f with
 |some (.func fid first cap)=>match l with
  |some l=>ca fid (first++(l++cap)) h nx
  |none=>.fail
 |some (.yld i)=>match l with
  |some l=>ya i l h nx
  |none=>.fail
 |_=>.fail
def orR (r q:R):R:=match r with
 |.val v h nx=>.val v h nx
 |.unit h nx=>.unit h nx
 |.fail=>q
def evSetE (c:Cx)(t:TypeId)(m k v:Option AV)(h:Tr ABlk) (nx:Nat):R:=
 match keyI c t,m,k,v with
 |some _,some (.map i),some k,some v=>match h.get i,keyEq2 k k with
  |some (.map es cl),some _=>match findK k es 0 with
   |some (some (j,_))=>h.putK (some (.map (es.modify j (fun e=>match e with |(_,_,n)=>(k,v,n))) cl)) i fun h=>.unit h nx
   |some none=>fN (cl+1) fun c1=>h.putK (some (.map (es++[(k,v,cl)]) c1)) i fun h=>.unit h nx
   |none=>.fail
  |_,_=>.fail
 |_,_,_,_=>.fail
theorem evSetE_eq (c:Cx)(t:TypeId)(m k v:Option AV)(h:Tr ABlk) (nx:Nat):evSetE c t m k v h nx=evSetK c t m k v h nx:=by
 unfold evSetE evSetK
 simp only[Tr.putK_eq,fN_eq]
 rfl
def evZ (c:Cx)(op:Op)(tm:Tr AV)(h:Tr ABlk) (nx:Nat):R:=match op with
 |.slice t x (some lo) none none=>match c.tt.get t with
  |some (.mk (.slice _) _ _ _ ((_,s,_)::_))=>match evO c.G tm x with
   |some (.sl _ _ len _ true)=>match evO c.G tm lo with
    |some (.int .i64 (.ofNat l))=>match Nat.beq l len with
     |true=>.val (.fz s false []) h nx
     |false=>.fail
    |_=>.fail
   |_=>.fail
  |_=>.fail
 |.lookup t m k ok=>evLookK c t ok (evO c.G tm m) (evO c.G tm k) h nx
 |.mapUpdate t m k v=>evSetE c t (evO c.G tm m) (evO c.G tm k) (evO c.G tm v) h nx
 |.call cl=>evClr c cl tm h nx
 |.range t x=>orR (evSR c t x tm h nx) (evMR c t x tm h nx)
 |.next x b=>match b with
  |true=>evSN c x tm h nx
  |false=>evMN c x tm h nx
 |_=>.fail
def stepW (c:Cx)(ca:Ca)(ya:Ya) (sz:Nat)(o:Oper)(tm:Tr AV)(h:Tr ABlk) (nx:Nat)(k:Tr AV→Tr ABlk→Nat→OS):OS:=
 match callOf o.op with
 |some (f,args)=>afterC sz o.dst tm k (callF ca ya (evO c.G tm f) (evOs c.G tm args.toList) h nx)
 |none=>match isDefer o.op with
  |true=>.fail
  |false=>afterR sz o.dst tm k (orR (evPlain c o.op tm h nx) (evZ c o.op tm h nx))
def evStep (c:Cx)(ca:Ca)(ya:Ya) (sz:Nat)(ops:List Oper)(o:Oper)(tm:Tr AV)(h:Tr ABlk) (nx:Nat)(k:Tr AV→Tr ABlk→Nat→OS):OS:=
 match wantA ops tm o with
 |none=>.fail
 |some false=>putT sz o.dst (.tup []) tm fun tm=>k tm h nx
 |some true=>stepW c ca ya sz o tm h nx k
def evOpsL (c:Cx)(ca:Ca)(ya:Ya) (sz:Nat)(ops:List Oper)(l:List Oper):Tr AV→Tr ABlk→Nat→OS:=
 List.rec (motive:=fun _=>Tr AV→Tr ABlk→Nat→OS) (fun tm h nx=>.ok tm h nx) (fun o _ ih tm h nx=>evStep c ca ya sz ops o tm h nx ih) l
def ofOS (ds:List DE)(r:OS):ER:=match r with
 |.ok tm h nx=>.norm tm h nx ds
 |.fail=>.fail
abbrev CE:=Tr AV→Tr ABlk→Nat→List DE→ER
abbrev Ed:=Nat→Array Oper→Tr AV→Tr ABlk→Nat→OS
def cRegion (c:Cx)(ca:Ca)(ya:Ya)(ed:Ed) (sz:Nat)(ops:Array Oper)(draw:Bool)(tm:Tr AV)(h:Tr ABlk) (nx:Nat)(ds:List DE):ER:=
 match draw with
 |false=>ofOS ds (evOpsL c ca ya sz ops.toList ops.toList tm h nx)
 |true=>ofOS ds (ed sz ops tm h nx)
def thenE (k:CE)(r:ER):ER:=match r with
 |.norm tm h nx ds=>k tm h nx ds
 |.exit id tm h nx ds=>.exit id tm h nx ds
 |.ret tm h nx ds=>.ret tm h nx ds
 |.fail=>.fail
def cSeq (ih:Code→CE)(a b:Code)(tm:Tr AV)(h:Tr ABlk) (nx:Nat)(ds:List DE):ER:=thenE (ih b) (ih a tm h nx ds)
def cLoop (ih:Code→CE)(a:Code)(tm:Tr AV)(h:Tr ABlk) (nx:Nat)(ds:List DE):ER:=thenE (ih (.loop a)) (ih a tm h nx ds)
def cCond (c:Cx)(ih:Code→CE)(x:Operand)(a b:Code)(tm:Tr AV)(h:Tr ABlk) (nx:Nat)(ds:List DE):ER:=match evO c.G tm x with
 |some (.bool true)=>ih a tm h nx ds
 |some (.bool false)=>ih b tm h nx ds
 |_=>.fail
def outE (id:Nat)(r:ER):ER:=match r with
 |.norm tm h nx ds=>.norm tm h nx ds
 |.exit id' tm h nx ds=>match Nat.beq id' id with
  |true=>.norm tm h nx ds
  |false=>.exit id' tm h nx ds
 |.ret tm h nx ds=>.ret tm h nx ds
 |.fail=>.fail
def cBlock (ih:Code→CE) (id:Nat)(a:Code)(tm:Tr AV)(h:Tr ABlk) (nx:Nat)(ds:List DE):ER:=outE id (ih a tm h nx ds)
def cFail:CE:=fun _ _ _ _=>.fail
def busy:LoopState→Bool
 |.busy=>true
 |_=>false
def rangeE (tm:Tr AV)(ds:List DE) (nx:Nat)(r:CO):ER:=match r with
 |.ok _ g ny=>match g.get (Nat.succ nx) with
  |some (.loop st pend _ _ _ _ _ _ _)=>match busy st with
   |true=>.fail
   |false=>match pend with
    |none=>g.putK none (Nat.succ nx) fun g=>.norm tm g ny (.mark nx::ds)
    |some .ret=>g.putK none (Nat.succ nx) fun g=>.ret tm g ny (.mark nx::ds)
    |some (.exit id)=>g.putK none (Nat.succ nx) fun g=>.exit id tm g ny (.mark nx::ds)
    |_=>.fail
  |_=>.fail
 |.fail=>.fail
def cRange (c:Cx)(ca:Ca)(inr:Bool) (sz:Nat)(go:Operand)(ps:Array Tmp)(assign body:Code)(tm:Tr AV)(h:Tr ABlk) (nx:Nat)(ds:List DE):ER:=match inr with
 |true=>.fail
 |false=>match evO c.G tm go with
  |some (.func fid first cap)=>match c.ft.get fid with
   |some _=>fN (Nat.succ nx) fun n1=>fN (Nat.succ n1) fun n2=>h.putK (some .dfr) nx fun h=>h.putK (some (.loop .ready none 0 sz tm ps assign body nx)) n1 fun h=>rangeE tm ds nx (ca fid (first++(.yld n1::cap)) h n2)
   |none=>.fail
  |_=>.fail
def cBody (c:Cx)(ca:Ca)(ya:Ya)(ed:Ed)(inr:Bool) (sz:Nat)(ih:Code→CE)(code:Code):CE:=
 match code with
 |.skip=>ER.norm
 |.label _=>ER.norm
 |.region _ ops draw=>cRegion c ca ya ed sz ops draw
 |.seq a b=>cSeq ih a b
 |.cond x a b=>cCond c ih x a b
 |.block id a=>cBlock ih id a
 |.loop a=>cLoop ih a
 |.rangeFunc go ps x y=>cRange c ca inr sz go ps x y
 |.scope a=>ih a
 |.exit id=>ER.exit id
 |.ret=>ER.ret
 |_=>cFail
def evC (c:Cx)(ca:Ca)(ya:Ya)(ed:Ed)(inr:Bool) (sz:Nat) (m:Nat):Code→CE:=
 Nat.rec (motive:=fun _=>Code→CE) (fun _ _ _ _ _=>.fail) (fun _ ih=>cBody c ca ya ed inr sz ih) m
def marksB (h:Tr ABlk)(ds:List DE)(k:Tr ABlk→CO):CO:=
 List.rec (motive:=fun _=>Tr ABlk→CO) k (fun d _ ih h=>match d with
  |.mark i=>match h.get i with
   |some .dfr=>h.putK none i ih
   |_=>.fail
  |.fn _ _ _=>.fail) ds h
def resK (c:Cx)(rs:List ResultVar)(tm:Tr AV)(h:Tr ABlk) (nx:Nat)(ds:List DE):CO:=
 marksB h ds fun h=>match resL c tm h nx rs with
  |some l=>.ok (resV l) h nx
  |none=>.fail
def evCall (c:Cx)(ca:Ca)(ya:Ya)(ed:Ca→Ya→Ed) (m:Nat):Ca:=fun f args h nx=>
 match c.ft.get f with
 |none=>.fail
 |some fn=>match fn.body with
  |none=>.fail
  |some code=>match Nat.ble args.length fn.ntmps with
   |false=>.fail
   |true=>putNK args .nil 0 fun tm=>match evC c ca ya (ed ca ya) false fn.ntmps m code tm h nx [] with
    |.norm tm h nx ds=>resK c fn.results.toList tm h nx ds
    |.ret tm h nx ds=>resK c fn.results.toList tm h nx ds
    |_=>.fail
def putPK (ps:List Tmp)(vs:List AV)(tm:Tr AV)(k:Tr AV→CO):CO:=
 List.rec (motive:=fun _=>List AV→Tr AV→CO) (fun _ tm=>k tm) (fun t _ ih vs tm=>match vs with
  |[]=>k tm
  |v::vs=>tm.putK (some v) t (ih vs)) ps vs tm
def roundE (i:Nat)(h:Tr ABlk)(b:Bool)(st:LoopState)(pend:Option Code) (nx:Nat):CO:=match h.get i with
 |some (.loop _ _ fn sz tm ps x y db)=>h.putK (some (.loop st pend fn sz tm ps x y db)) i fun h=>.ok (.bool b) h nx
 |_=>.fail
def evYld (c:Cx)(ca:Ca)(ya:Ya)(ed:Ca→Ya→Ed) (m:Nat):Ya:=fun i args h nx=>
 match h.get i with
 |some (.loop .ready _ _ sz tmR ps assign body _)=>match Nat.beq args.length ps.toList.length && allL ps.toList (fun t=>Nat.ble (Nat.succ t) sz) with
  |false=>.fail
  |true=>putPK ps.toList args tmR fun tm=>match evC c ca ya (ed ca ya) true sz m assign tm h nx [] with
   |.norm tm h nx ds=>match h.get i with
    |some (.loop .ready pend fn sz' tmR ps x y db)=>h.putK (some (.loop .busy pend fn sz' tmR ps x y db)) i fun h=>match evC c ca ya (ed ca ya) true sz m body tm h nx ds with
     |.norm _ h nx _=>roundE i h true .ready none nx
     |.ret _ h nx _=>roundE i h false .done (some .ret) nx
     |.exit id _ h nx _=>roundE i h false .done (some (.exit id)) nx
     |.fail=>.fail
    |_=>.fail
   |_=>.fail
 |_=>.fail
inductive CY where
 |mk (ca:Ca) (ya:Ya)
def CY.ca:CY→Ca |.mk a _=>a
def CY.ya:CY→Ya |.mk _ y=>y
def ev (c:Cx)(hook:Ca→Ca)(ed:Ca→Ya→Ed) (m:Nat) (n:Nat):CY:=
 Nat.rec (motive:=fun _=>CY) (.mk (fun _ _ _ _=>.fail) (fun _ _ _ _=>.fail)) (fun _ ih=>.mk (hook (evCall c ih.ca ih.ya ed m)) (evYld c ih.ca ih.ya ed m)) n
end
end Go.Ev
namespace Go.Ev
noncomputable section
variable {P : Program} {c : Cx} {σ τ υ : Sg} {h g f : Tr ABlk} {nx ny nz sz : Nat} {ds : List DE} {w x y : World} {tm : Tr AV} {a : Act}
theorem putT_ok {d:Option Tmp}{v:AV}{k:Tr AV→OS}{r:OS}(he:putT sz d v tm k=r)(hr:r≠.fail)(ht:St σ tm a sz ds){V:Value}(hv:Rel σ v V):∃tm',k tm'=r∧St σ tm' (a.put d V) sz ds:=by
 unfold putT at he
 cases d with
 |none=>exact⟨tm,he,ht⟩
 |some d=>
  simp only at he
  cases hb:Nat.ble (Nat.succ d) sz with
  |false=>rw[hb]at he;exact absurd he.symm hr
  |true=>
   rw[hb]at he
   simp only[Tr.putK_eq]at he
   exact⟨_,he,ht.put (Nat.le_of_ble_eq_true hb) hv⟩
theorem evZ_ok (hc:CxOk P c)(hk:Ok c.G σ h nx w)(ht:TmOk σ tm a)(o:Oper):RO P c.G σ h nx w (execOp a.eval o) (evZ c o.op tm h nx):=by
 obtain⟨dst,op,type,pos,after,guard⟩:=o
 show RO P c.G σ h nx w (execOp a.eval _) (evZ c op tm h nx)
 unfold evZ
 split
 ·rename_i t x lo
  split
  ·rename_i elem size bytes zero o0 s b0 fs htt
   split
   ·rename_i i o len cc hx
    split
    ·rename_i l hlo
     cases hb:Nat.beq l len with
     |false=>trivial
     |true=>
      have e:=Nat.eq_of_beq_eq_true hb
      subst e
      obtain⟨hu,inf,hi',hs,hby,hzz,hff,hfl0,he⟩:=hc.tt _ _ htt
      have htf:=he elem (.inl rfl) o0 s b0 rfl
      have hX:=evO_ok hk ht hx
      have hL:=evO_ok hk ht hlo
      simp only[Rel,if_true]at hX hL
      obtain⟨bb,hb0,e1,hlc⟩:=hX
      have e2:execOp a.eval ⟨dst,.slice t x (some lo) none none,type,pos,after,guard⟩=(do pure (.value (← Instr.sliceAt t (a.eval x) (some (a.eval lo)) none none))):=rfl
      rw[e2]
      refine RO.ofV ?_
      have hsb:=run_sliceBounds (P:=P) true l (σ.cap i-cc) (lo:=some (a.eval lo)) (hi:=none) (mx:=none) (l:=l) (hh:=l) (m:=σ.cap i-cc) rfl ⟨rfl,rfl⟩ ⟨⟨.i64,hL⟩,Nat.le_refl _⟩ w
      generalize σ.cap i-cc=m at e1 hsb hlc
      refine SV.pure hk (V:=.slice (some (if m=l then ⟨bb,o,none⟩ else ⟨bb,o+l * s,none⟩)) 0 (m-l)) ?_ ?_
      ·rw[e1]
       by_cases hml:m=l
       ·subst hml
        simp[Instr.sliceAt,run_underlying hu,Instr.slice,hsb,htf.size]
       ·simp[Instr.sliceAt,run_underlying hu,Instr.slice,hsb,htf.size,hml,addr_add]
      ·simp only[Rel]
       exact⟨_,_,rfl,Nat.zero_le _,fun h=>by simp at h,fun h=>by simp at h,fun h=>by simp at h⟩
    ·trivial
   ·trivial
  ·trivial
 ·rename_i t m k ok
  exact RO.ofV (evLookK_ok hc hk t ok (fun v e=>evO_ok hk ht e) (fun v e=>evO_ok hk ht e) (M:=a.eval m) (K:=a.eval k))
 ·rename_i t m k v
  rw[evSetE_eq]
  exact RO.ofU (evSetK_ok hc hk t (fun v e=>evO_ok hk ht e) (fun v e=>evO_ok hk ht e) (fun v e=>evO_ok hk ht e) (M:=a.eval m) (K:=a.eval k) (V:=a.eval v))
 ·exact evClr_ok hc hk ht
 ·rename_i t x
  have h1:=evSR_ok hc hk ht (dst:=dst) (t:=t) (x:=x) (type:=type) (pos:=pos) (after:=after) (guard:=guard)
  cases he:evSR c t x tm h nx with
  |fail=>exact evMR_ok hc hk ht
  |val v g n=>rw[he]at h1;exact h1
  |unit g n=>rw[he]at h1;exact h1
 ·rename_i x b
  cases b with
  |true=>exact evSN_ok hk ht
  |false=>exact evMN_ok hk ht
 ·trivial
theorem orR_ok (hc:CxOk P c)(hk:Ok c.G σ h nx w)(ht:TmOk σ tm a)(o:Oper):RO P c.G σ h nx w (execOp a.eval o) (orR (evPlain c o.op tm h nx) (evZ c o.op tm h nx)):=by
 have h1:=evPlain_ok hc hk ht o
 cases he:evPlain c o.op tm h nx with
 |fail=>exact evZ_ok hc hk ht o
 |val v g n=>rw[he]at h1;exact h1
 |unit g n=>rw[he]at h1;exact h1
theorem evStep_ok (hc:CxOk P c){ca:Ca}(hca:CaOk P c ca){ya:Ya}(hya:YaOk P c ya){ops:Array Oper}{o:Oper}{k:Tr AV→Tr ABlk→Nat→OS}{r:OS}(hs:evStep c ca ya sz ops.toList o tm h nx k=r)(hr:r≠.fail){rr:Option Nat}(hk:Ok c.G σ h nx w)(ht:St σ tm a sz ds)(Q:Exit→Act→World→Prop)(L:Act→World→Prop)
  (hK:∀τ tm1 a1 w1 h1 nx1,k tm1 h1 nx1=r→Post c.G σ h nx w τ h1 nx1 w1→St τ tm1 a1 sz ds→L a1 w1):
  if Region.wanted o (yielded ops a.tmps) then o.wpIn (fence rr) 0 P a w L Q else (∀f,o.about P w a.eval=some f→(fence rr).fn f)∧L (a.put o.dst undef) w:=by
 unfold evStep at hs
 cases hw:wantA ops.toList tm o with
 |none=>rw[hw]at hs;exact absurd hs.symm hr
 |some b=>
  rw[wantA_ok ht.tm hw]
  rw[hw]at hs
  cases b with
  |false=>
   simp only[Bool.false_eq_true,if_false]
   obtain⟨tm',e1,e2⟩:=putT_ok hs hr ht rel_undef
   exact⟨fun _ _=>trivial,hK σ tm' _ w h nx e1 (.refl hk) e2⟩
  |true=>
   simp only[if_true]
   simp only at hs
   unfold stepW at hs
   have plain:callOf o.op=none→o.wpIn (fence rr) 0 P a w L Q:=by
    intro hcn
    rw[hcn]at hs
    simp only at hs
    cases hd0:isDefer o.op with
    |true=>rw[hd0]at hs;exact absurd hs.symm hr
    |false=>
    rw[hd0]at hs
    simp only at hs
    have hd:∀cl,o.op≠.defer cl:=fun cl e=>by rw[e]at hd0;cases hd0
    have hp:=orR_ok hc hk ht.tm o
    cases hv:orR (evPlain c o.op tm h nx) (evZ c o.op tm h nx) with
    |fail=>rw[hv]at hs;exact absurd hs.symm hr
    |val v g ny=>
     rw[hv]at hs hp
     replace hs:(putT sz o.dst v tm fun tm=>k tm g ny)=r:=hs
     obtain⟨V,τ,x,h1,h2,h3⟩:=hp
     obtain⟨tm',e1,e2⟩:=putT_ok hs hr (ht.mono h3.le) h2
     refine upon_fence hd ?_
     rw[h1]
     exact hK τ tm' _ x g ny e1 h3 e2
    |unit g ny=>
     rw[hv]at hs hp
     replace hs:(putT sz o.dst (.tup []) tm fun tm=>k tm g ny)=r:=hs
     obtain⟨τ,x,h1,h3⟩:=hp
     obtain⟨tm',e1,e2⟩:=putT_ok hs hr (ht.mono h3.le) rel_undef
     refine upon_fence hd ?_
     rw[h1]
     exact hK τ tm' _ x g ny e1 h3 e2
   obtain⟨dst,op,type,pos,after,guard⟩:=o
   cases op <;> try exact plain rfl
   rename_i cl
   obtain⟨callee,args,argTypes⟩:=cl
   cases callee <;> try exact plain rfl
   rename_i fo
   clear plain
   replace hs:afterC sz dst tm k (callF ca ya (evO c.G tm fo) (evOs c.G tm args.toList) h nx)=r:=hs
   cases hf:evO c.G tm fo with
   |none=>rw[hf]at hs;exact absurd hs.symm hr
   |some fv=>
    rw[hf]at hs
    have hfv:=evO_ok hk ht.tm hf
    cases fv <;> try exact absurd hs.symm hr
    case yld i=>
     cases hl:evOs c.G tm args.toList with
     |none=>rw[hl]at hs;exact absurd hs.symm hr
     |some l=>
      rw[hl]at hs
      replace hs:afterC sz dst tm k (ya i l h nx)=r:=hs
      cases hy:ya i l h nx with
      |fail=>rw[hy]at hs;exact absurd hs.symm hr
      |ok v0 g0 n0=>
      rw[hy]at hs
      replace hs:(putT sz dst v0 tm fun tm=>k tm g0 n0)=r:=hs
      have hlr:=evOs_ok hk ht.tm hl
      simp only[Rel]at hfv
      obtain⟨lb,hlb,e1⟩:=hfv
      obtain⟨fn,tmps,assign,body,hy1,hy2⟩:=hya i l h nx v0 g0 n0 hy σ w (args.toList.map a.eval) lb hk hlr hlb
      have hex:(execOp a.eval ⟨dst,.call ⟨.value fo,args,argTypes⟩,type,pos,after,guard⟩).run P w=(Instr.yield lb (args.toList.map a.eval).toArray).run P w:=by
       have e2:execOp a.eval ⟨dst,.call ⟨.value fo,args,argTypes⟩,type,pos,after,guard⟩=(do let d ← Deferred.ofValue (a.eval fo) (args.map a.eval);invoke d.target d.args):=rfl
       rw[e2,e1]
       show (Instr.yield lb (#[]++args.map a.eval)).run P w=_
       congr 2
       apply Array.ext'
       simp
      refine upon_fence (fun _ e=>by cases e) ?_
      rw[hex,hy1]
      refine⟨fun hh=>by simp[fence,Fence.wide]at hh,round_fence (hy2.mono fun e x q=>?_)⟩
      cases e with
      |returned V=>
       obtain⟨τ,v,g,ny,q1,q2,q3,q4,q5⟩:=q
       subst q3
       subst q4
       subst q5
       obtain⟨tm',k1,k2⟩:=putT_ok hs hr (ht.mono q2.le) q1
       exact hK τ tm' _ x _ _ k1 q2 k2
      |panicked ch=>exact q.elim
      |outgrown=>exact q.elim
    rename_i fid first cap
    cases hl:evOs c.G tm args.toList with
    |none=>rw[hl]at hs;exact absurd hs.symm hr
    |some l=>
     rw[hl]at hs
     replace hs:afterC sz dst tm k (ca fid (first++(l++cap)) h nx)=r:=hs
     cases hy:ca fid (first++(l++cap)) h nx with
     |fail=>rw[hy]at hs;exact absurd hs.symm hr
     |ok v0 g0 n0=>
     rw[hy]at hs
     replace hs:(putT sz dst v0 tm fun tm=>k tm g0 n0)=r:=hs
     have hlr:=evOs_ok hk ht.tm hl
     simp only[Rel]at hfv
     obtain⟨F,C,e1,r1,r2⟩:=hfv
     have hcr:=hca fid _ h nx v0 g0 n0 hy σ w (F++(args.toList.map a.eval++C)) hk (r1.append (hlr.append r2))
     have hex:(execOp a.eval ⟨dst,.call ⟨.value fo,args,argTypes⟩,type,pos,after,guard⟩).run P w=(callFunc fid (F++(args.toList.map a.eval++C)).toArray).run P w:=by
      have e2:execOp a.eval ⟨dst,.call ⟨.value fo,args,argTypes⟩,type,pos,after,guard⟩=(do let d ← Deferred.ofValue (a.eval fo) (args.map a.eval);invoke d.target d.args):=rfl
      rw[e2,e1]
      show (callFunc fid (F.toArray++args.map a.eval++C.toArray)).run P w=_
      congr 2
      apply Array.ext'
      simp
     refine upon_fence (fun _ e=>by cases e) ?_
     rw[hex]
     unfold CR at hcr
     cases hrun:(callFunc fid (F++(args.toList.map a.eval++C)).toArray).run P w with
     |halt hh w'=>rw[hrun]at hcr;exact hcr.elim
     |ok nxt w'=>
      rw[hrun]at hcr
      cases nxt <;> try exact hcr.elim
      ·rename_i V
       obtain⟨τ,v,g,ny,q1,q2,q3,q4,q5⟩:=hcr
       subst q3
       subst q4
       subst q5
       obtain⟨tm',k1,k2⟩:=putT_ok hs hr (ht.mono q2.le) q1
       exact hK τ tm' _ _ _ _ k1 q2 k2
      ·rename_i f' A'
       refine⟨fun hh=>by simp[fence,Fence.wide]at hh,calls_fence (Calls.mono hcr fun e x q=>?_)⟩
       cases e with
       |returned V=>
        obtain⟨τ,v,g,ny,q1,q2,q3,q4,q5⟩:=q
        subst q3
        subst q4
        subst q5
        obtain⟨tm',k1,k2⟩:=putT_ok hs hr (ht.mono q2.le) q1
        exact hK τ tm' _ x _ _ k1 q2 k2
       |panicked ch=>exact q.elim
       |outgrown=>exact q.elim
theorem evOpsL_ok (hc:CxOk P c){ca:Ca}(hca:CaOk P c ca){ya:Ya}(hya:YaOk P c ya){ops:Array Oper}{rr:Option Nat}(Q:Exit→Act→World→Prop){r:OS}(hr:r≠.fail):∀(l:List Oper){σ tm h nx w a},evOpsL c ca ya sz ops.toList l tm h nx=r→
  Ok c.G σ h nx w→St σ tm a sz ds→(∀τ tm' a' w' h' nx',r=.ok tm' h' nx'→Post c.G σ h nx w τ h' nx' w'→St τ tm' a' sz ds→Q .normal a' w')→wpListIn (fence rr) 0 P ops Q l a w
 |[],σ,tm,h,nx,w,a,he,hk,ht,hQ=>hQ σ tm a w h nx he.symm (.refl hk) ht
 |o::l,σ,tm,h,nx,w,a,he,hk,ht,hQ=>by
  unfold wpListIn
  refine evStep_ok hc hca hya (k:=evOpsL c ca ya sz ops.toList l) he hr hk ht _ _ fun τ tm1 a1 w1 h1 nx1 e1 p1 s1=>?_
  exact evOpsL_ok hc hca hya Q hr l e1 p1.ok s1 fun υ tm' a' w' h' nx' e2 p2 s2=>hQ υ tm' a' w' h' nx' e2 (p1.trans p2) s2
def QE:ER→AX→AS→Prop
 |.norm tm h nx ds,k,s=>k=.norm∧s=.mk tm h nx ds
 |.exit id tm h nx ds,k,s=>k=.exit id∧s=.mk tm h nx ds
 |.ret tm h nx ds,k,s=>k=.ret∧s=.mk tm h nx ds
 |.fail,_,_=>False
def EdOk (P:Program)(c:Cx)(ed:Ed):Prop:=∀sz ops tm h nx tm' h' nx',ed sz ops tm h nx=.ok tm' h' nx'→∀(inr:Bool) (id:Nat)(ds:List DE),AW P c inr sz (.region id ops true) (QE (.norm tm' h' nx' ds)) (.mk tm h nx ds)
theorem evC_ok (hc:CxOk P c){ca:Ca}(hca:CaOk P c ca){ya:Ya}(hya:YaOk P c ya){ed:Ed}(hed:EdOk P c ed){inr:Bool}:∀(m:Nat)(code:Code)(tm:Tr AV)(h:Tr ABlk) (nx:Nat)(ds:List DE)(r:ER),evC c ca ya ed inr sz m code tm h nx ds=r→r≠.fail→
  AW P c inr sz code (QE r) (.mk tm h nx ds):=by
 intro m
 induction m using Nat.strongRecOn with
 |_ m0 ih0=>
  intro code tm h nx ds r he hr
  cases m0 with
  |zero=>exact absurd he.symm hr
  |succ m=>
  have ih:=ih0 m (Nat.lt_succ_self m)
  cases code with
  |skip=>cases he;exact AW_skip ⟨rfl,rfl⟩
  |label l=>cases he;exact AW_label ⟨rfl,rfl⟩
  |exit id=>cases he;exact AW_exit ⟨rfl,rfl⟩
  |ret=>cases he;exact AW_ret ⟨rfl,rfl⟩
  |goto l=>exact absurd he.symm hr
  |refuse s=>exact absurd he.symm hr
  |scope s=>exact AW_scope (ih s tm h nx ds r he hr)
  |region id ops draw=>
   cases draw with
   |false=>
    change ofOS ds (evOpsL c ca ya sz ops.toList ops.toList tm h nx)=r at he
    cases h1:evOpsL c ca ya sz ops.toList ops.toList tm h nx with
    |fail=>rw[h1]at he;exact absurd he.symm hr
    |ok tm1 g1 n1=>
     rw[h1]at he
     subst he
     intro rr hi σ a w ok st
     refine wpIn_region_list (evOpsL_ok hc hca hya _ (by simp) ops.toList h1 ok st fun τ tm' a' w' h' nx' e p s=>?_)
     cases e
     exact⟨.norm,_,_,_,_,τ,rfl,p,s,rfl,rfl⟩
   |true=>
    change ofOS ds (ed sz ops tm h nx)=r at he
    cases h1:ed sz ops tm h nx with
    |fail=>rw[h1]at he;exact absurd he.symm hr
    |ok tm1 g1 n1=>
     rw[h1]at he
     subst he
     exact hed sz ops tm h nx tm1 g1 n1 h1 inr id ds
  |seq x y=>
   change thenE (evC c ca ya ed inr sz m y) (evC c ca ya ed inr sz m x tm h nx ds)=r at he
   refine AW_seq ?_
   cases h1:evC c ca ya ed inr sz m x tm h nx ds with
   |fail=>rw[h1]at he;exact absurd he.symm hr
   |norm tm1 g1 n1 d1=>
    rw[h1]at he
    refine(ih x tm h nx ds _ h1 (by simp)).mono ?_
    rintro k s ⟨rfl,rfl⟩
    exact ih y tm1 g1 n1 d1 r he hr
   |exit id tm1 g1 n1 d1=>
    rw[h1]at he
    subst he
    refine(ih x tm h nx ds _ h1 (by simp)).mono ?_
    rintro k s ⟨rfl,rfl⟩
    exact⟨rfl,rfl⟩
   |ret tm1 g1 n1 d1=>
    rw[h1]at he
    subst he
    refine(ih x tm h nx ds _ h1 (by simp)).mono ?_
    rintro k s ⟨rfl,rfl⟩
    exact⟨rfl,rfl⟩
  |cond x y z=>
   change (match evO c.G tm x with
    |some (.bool true)=>evC c ca ya ed inr sz m y tm h nx ds
    |some (.bool false)=>evC c ca ya ed inr sz m z tm h nx ds
    |_=>.fail)=r at he
   cases h1:evO c.G tm x with
   |none=>rw[h1]at he;exact absurd he.symm hr
   |some v=>
    rw[h1]at he
    cases v <;> try exact absurd he.symm hr
    rename_i b
    cases b with
    |true=>exact AW_cond h1 (fun _=>ih y tm h nx ds r he hr) (fun e=>by cases e)
    |false=>exact AW_cond h1 (fun e=>by cases e) (fun _=>ih z tm h nx ds r he hr)
  |block id x=>
   change outE id (evC c ca ya ed inr sz m x tm h nx ds)=r at he
   refine AW_block ?_
   cases h1:evC c ca ya ed inr sz m x tm h nx ds with
   |fail=>rw[h1]at he;exact absurd he.symm hr
   |norm tm1 g1 n1 d1=>
    rw[h1]at he
    subst he
    refine(ih x tm h nx ds _ h1 (by simp)).mono ?_
    rintro k s ⟨rfl,rfl⟩
    exact⟨rfl,rfl⟩
   |ret tm1 g1 n1 d1=>
    rw[h1]at he
    subst he
    refine(ih x tm h nx ds _ h1 (by simp)).mono ?_
    rintro k s ⟨rfl,rfl⟩
    exact⟨rfl,rfl⟩
   |exit id' tm1 g1 n1 d1=>
    rw[h1]at he
    replace he:(match Nat.beq id' id with |true=>ER.norm tm1 g1 n1 d1 |false=>ER.exit id' tm1 g1 n1 d1)=r:=he
    refine(ih x tm h nx ds _ h1 (by simp)).mono ?_
    rintro k s ⟨rfl,rfl⟩
    cases hb:Nat.beq id' id with
    |true=>
     rw[hb]at he
     subst he
     have:=Nat.eq_of_beq_eq_true hb
     subst this
     simp only[inBlockA,if_true]
     exact⟨rfl,rfl⟩
    |false=>
     rw[hb]at he
     subst he
     simp only[inBlockA,if_neg (beq_false hb)]
     exact⟨rfl,rfl⟩
  |loop x=>
   refine AW_rounds (fun n s=>∃tm h nx ds,s=.mk tm h nx ds∧n≤m+1∧evC c ca ya ed inr sz n (.loop x) tm h nx ds=r) ⟨m+1,tm,h,nx,ds,rfl,Nat.le_refl _,he⟩ ?_
   rintro n s ⟨tm,h,nx,ds,rfl,hn,he⟩ J hJ
   cases n with
   |zero=>exact absurd he.symm hr
   |succ n=>
   change thenE (evC c ca ya ed inr sz n (.loop x)) (evC c ca ya ed inr sz n x tm h nx ds)=r at he
   have ihn:=ih0 n (by omega)
   cases h1:evC c ca ya ed inr sz n x tm h nx ds with
   |fail=>rw[h1]at he;exact absurd he.symm hr
   |norm tm1 g1 n1 d1=>
    rw[h1]at he
    refine(ihn x tm h nx ds _ h1 (by simp)).mono ?_
    rintro k s ⟨rfl,rfl⟩
    exact hJ n _ (Nat.lt_succ_self n) ⟨tm1,g1,n1,d1,rfl,by omega,he⟩
   |exit id tm1 g1 n1 d1=>
    rw[h1]at he
    subst he
    refine(ihn x tm h nx ds _ h1 (by simp)).mono ?_
    rintro k s ⟨rfl,rfl⟩
    exact⟨rfl,rfl⟩
   |ret tm1 g1 n1 d1=>
    rw[h1]at he
    subst he
    refine(ihn x tm h nx ds _ h1 (by simp)).mono ?_
    rintro k s ⟨rfl,rfl⟩
    exact⟨rfl,rfl⟩
  |rangeFunc go ps asg body=>
   change cRange c ca inr sz go ps asg body tm h nx ds=r at he
   unfold cRange at he
   cases inr with
   |true=>exact absurd he.symm hr
   |false=>
   simp only at he
   cases hg:evO c.G tm go with
   |none=>rw[hg]at he;exact absurd he.symm hr
   |some gv=>
   rw[hg]at he
   cases gv <;> try exact absurd he.symm hr
   rename_i fid first cap
   simp only at he
   cases hft:c.ft.get fid with
   |none=>rw[hft]at he;exact absurd he.symm hr
   |some fnn=>
   rw[hft]at he
   simp only[fN_eq,Tr.putK_eq]at he
   refine AW_range hc hft hg (fn0:=0) ?_
   cases hcl:ca fid (first++(.yld (Nat.succ nx)::cap)) ((h.put nx (some .dfr)).put (Nat.succ nx) (some (.loop .ready none 0 sz tm ps asg body nx))) (Nat.succ (Nat.succ nx)) with
   |fail=>rw[hcl]at he;exact absurd he.symm hr
   |ok v g ny=>
   rw[hcl]at he
   refine(hca _ _ _ _ _ _ _ hcl).mono ?_
   rintro v' g' ny' ⟨rfl,rfl,rfl⟩
   unfold rangeE at he
   simp only at he
   cases hgl:g'.get (Nat.succ nx) with
   |none=>rw[hgl]at he;exact absurd he.symm hr
   |some B=>
   rw[hgl]at he
   cases B <;> try exact absurd he.symm hr
   rename_i st pend fn sz' tmR ps' x' y' db
   simp only at he
   cases hb:busy st with
   |true=>rw[hb]at he;exact absurd he.symm hr
   |false=>
   rw[hb]at he
   simp only at he
   have hst:st≠.busy:=fun e=>by rw[e]at hb;cases hb
   refine⟨st,pend,fn,sz',tmR,ps',x',y',db,hgl,hst,?_⟩
   cases pend with
   |none=>
    simp only[Tr.putK_eq]at he
    subst he
    exact⟨rfl,rfl⟩
   |some cd=>
    cases cd <;> try exact absurd he.symm hr
    ·simp only[Tr.putK_eq]at he
     subst he
     exact⟨rfl,rfl⟩
    ·simp only[Tr.putK_eq]at he
     subst he
     exact⟨rfl,rfl⟩
theorem marksB_ok {k:Tr ABlk→CO}{r:CO}(hr:r≠.fail):∀{ds:List DE}{h:Tr ABlk},marksB h ds k=r→marksOk h ds∧k (eraseL h ds)=r
 |[],h,he=>⟨trivial,he⟩
 |.fn _ _ _::ds,h,he=>absurd he.symm hr
 |.mark i::ds,h,he=>by
  change (match h.get i with |some .dfr=>h.putK none i (fun h=>marksB h ds k) |_=>.fail)=r at he
  cases hi:h.get i with
  |none=>rw[hi]at he;exact absurd he.symm hr
  |some B=>
   rw[hi]at he
   cases B <;> try exact absurd he.symm hr
   simp only[Tr.putK_eq]at he
   obtain⟨h1,h2⟩:=marksB_ok hr he
   exact⟨⟨hi,h1⟩,h2⟩
theorem resK_ok {rs:List ResultVar}{v:AV}(he:resK c rs tm h nx ds=.ok v g ny):endP c rs (eqQ v g ny) (.mk tm h nx ds):=by
 unfold resK at he
 obtain⟨h1,h2⟩:=marksB_ok (by simp) he
 refine⟨h1,?_⟩
 cases hl:resL c tm (eraseL h ds) nx rs with
 |none=>rw[hl]at h2;cases h2
 |some l=>
  rw[hl]at h2
  cases h2
  exact⟨rfl,rfl,rfl⟩
theorem evCall_ok (hc:CxOk P c){ca:Ca}(hca:CaOk P c ca){ya:Ya}(hya:YaOk P c ya){ed:Ca→Ya→Ed}(hed:EdOk P c (ed ca ya)) (m:Nat):CaOk P c (evCall c ca ya ed m):=by
 intro f args h nx v g ny he
 unfold evCall at he
 cases hft:c.ft.get f with
 |none=>rw[hft]at he;cases he
 |some fn=>
 rw[hft]at he
 simp only at he
 cases hb:fn.body with
 |none=>rw[hb]at he;cases he
 |some code=>
 rw[hb]at he
 simp only at he
 cases hl:Nat.ble args.length fn.ntmps with
 |false=>rw[hl]at he;cases he
 |true=>
 rw[hl]at he
 simp only[putNK_eq]at he
 refine ACall_of hc hft hb (Nat.le_of_ble_eq_true hl) ?_
 cases hev:evC c ca ya (ed ca ya) false fn.ntmps m code (putN args .nil 0) h nx [] with
 |fail=>rw[hev]at he;cases he
 |exit id tm1 g1 n1 d1=>rw[hev]at he;cases he
 |norm tm1 g1 n1 d1=>
  rw[hev]at he
  refine(evC_ok hc hca hya hed m code _ h nx [] _ hev (by simp)).mono ?_
  rintro k s ⟨rfl,rfl⟩
  exact resK_ok he
 |ret tm1 g1 n1 d1=>
  rw[hev]at he
  refine(evC_ok hc hca hya hed m code _ h nx [] _ hev (by simp)).mono ?_
  rintro k s ⟨rfl,rfl⟩
  exact resK_ok he
theorem putPK_eq (k:Tr AV→CO):∀(ps:List Tmp)(vs:List AV)(tm:Tr AV),putPK ps vs tm k=k (putP ps vs tm)
 |[],vs,tm=>by cases vs <;> rfl
 |t::ps,[],tm=>rfl
 |t::ps,v::vs,tm=>by
  show tm.putK (some v) t (fun tm=>putPK ps vs tm k)=_
  rw[Tr.putK_eq,putPK_eq k ps vs]
  rfl
theorem evYld_ok (hc:CxOk P c){ca:Ca}(hca:CaOk P c ca){ya:Ya}(hya:YaOk P c ya){ed:Ca→Ya→Ed}(hed:EdOk P c (ed ca ya)) (m:Nat):YaOk P c (evYld c ca ya ed m):=by
 intro i args h nx v g ny he
 unfold evYld at he
 cases hi:h.get i with
 |none=>rw[hi]at he;cases he
 |some B=>
 rw[hi]at he
 cases B <;> try (cases he;done)
 rename_i st pend fn sz tmR ps assign body db
 cases st <;> try (cases he;done)
 simp only at he
 cases hck:(Nat.beq args.length ps.toList.length && allL ps.toList (fun t=>Nat.ble (Nat.succ t) sz)) with
 |false=>rw[hck]at he;cases he
 |true=>
 rw[hck]at he
 simp only[putPK_eq]at he
 rw[Bool.and_eq_true]at hck
 have hlen:=Nat.eq_of_beq_eq_true hck.1
 refine AYld_of hi (by simpa using hlen) (fun t ht=>Nat.le_of_ble_eq_true (allL_spec hck.2 t ht)) ?_
 cases hev:evC c ca ya (ed ca ya) true sz m assign (putP ps.toList args tmR) h nx [] with
 |fail=>rw[hev]at he;cases he
 |exit id tm1 g1 n1 d1=>rw[hev]at he;cases he
 |ret tm1 g1 n1 d1=>rw[hev]at he;cases he
 |norm tm1 g1 n1 d1=>
 rw[hev]at he
 simp only at he
 refine(evC_ok hc hca hya hed m assign _ h nx [] _ hev (by simp)).mono ?_
 rintro k s ⟨rfl,rfl⟩
 cases hi1:g1.get i with
 |none=>rw[hi1]at he;cases he
 |some B1=>
 rw[hi1]at he
 cases B1 <;> try (cases he;done)
 rename_i st1 pend1 fn1 sz1 tmR1 ps1 x1 y1 db1
 cases st1 <;> try (cases he;done)
 simp only[Tr.putK_eq]at he
 refine⟨pend1,fn1,sz1,tmR1,ps1,x1,y1,db1,hi1,?_⟩
 have fin:∀{g2:Tr ABlk} {n2:Nat} {b:Bool} {st:LoopState} {pd:Option Code},roundE i g2 b st pd n2=.ok v g ny→∃st' pend fn sz tm ps x y db,g2.get i=some (.loop st' pend fn sz tm ps x y db)∧eqQ v g ny (.bool b) (g2.put i (some (.loop st pd fn sz tm ps x y db))) n2:=by
  intro g2 n2 b st pd hr
  unfold roundE at hr
  cases hi2:g2.get i with
  |none=>rw[hi2]at hr;cases hr
  |some B2=>
   rw[hi2]at hr
   cases B2 <;> try (cases hr;done)
   simp only[Tr.putK_eq]at hr
   cases hr
   exact⟨_,_,_,_,_,_,_,_,_,rfl,rfl,rfl,rfl⟩
 cases hev2:evC c ca ya (ed ca ya) true sz m body tm1 (g1.put i (some (.loop .busy pend1 fn1 sz1 tmR1 ps1 x1 y1 db1))) n1 d1 with
 |fail=>rw[hev2]at he;cases he
 |norm tm2 g2 n2 d2=>
  rw[hev2]at he
  refine(evC_ok hc hca hya hed m body _ _ n1 d1 _ hev2 (by simp)).mono ?_
  rintro k s ⟨rfl,rfl⟩
  exact fin he
 |ret tm2 g2 n2 d2=>
  rw[hev2]at he
  refine(evC_ok hc hca hya hed m body _ _ n1 d1 _ hev2 (by simp)).mono ?_
  rintro k s ⟨rfl,rfl⟩
  exact fin he
 |exit id tm2 g2 n2 d2=>
  rw[hev2]at he
  refine(evC_ok hc hca hya hed m body _ _ n1 d1 _ hev2 (by simp)).mono ?_
  rintro k s ⟨rfl,rfl⟩
  exact fin he
theorem ev_ok (hc:CxOk P c){hook:Ca→Ca}(hh:∀ca,CaOk P c ca→CaOk P c (hook ca)){ed:Ca→Ya→Ed}(hed:∀ca ya,CaOk P c ca→YaOk P c ya→EdOk P c (ed ca ya)) (m:Nat):∀n,CaOk P c (ev c hook ed m n).ca∧YaOk P c (ev c hook ed m n).ya
 |0=>⟨(fun _ _ _ _ _ _ _ he=>by cases he),(fun _ _ _ _ _ _ _ he=>by cases he)⟩
 |n+1=>by
  obtain⟨h1,h2⟩:=ev_ok hc hh hed m n
  have h3:=hed _ _ h1 h2
  exact⟨hh _ (evCall_ok hc h1 h2 h3 m),evYld_ok hc h1 h2 h3 m⟩
end
end Go.Ev
