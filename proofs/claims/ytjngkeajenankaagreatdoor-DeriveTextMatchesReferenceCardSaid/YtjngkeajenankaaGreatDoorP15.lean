/- Texts FR. -/
import Derived.Below
import Derived.Carry
import Derived.HandedShaped
import Derived.ChangeSame
import Derived.LaidMore
import Derived.Lay
import Derived.Stop.Joined
import Derived.Shelf.Vars
import Derived.Test.YtjngkeajenankaaGreatDoorRows
import Derived.Test.YtjngkeajenankaaGreatDoorP14
set_option linter.unusedSimpArgs false
set_option linter.unusedVariables false
set_option maxRecDepth 100000
namespace Go.Ev
open Go.Proofs Go.ChangeShapes Go.WideShapes Go.ChangeAt Go.WideElems Go.RowKit
open Go.Proofs.YtjngkeajenankaaGreatDoor
noncomputable section
section
variable {H : Type} {enc : TypeId × Value → H}
theorem handed_shaped {a:Assume}{C:Checked}{os:Os}{f:FuncId}{fn:Func}{s:ChangeSpec}{conds:List PathCond}{apart fresh handsOn again:Bool}{X:World→Array Value→Prop}
  (hX:∀(w w':World) (args:Array Value),w.heap=w'.heap→X w args→X w' args)
  (own:ownKnob C.prog.godebug=none) (started:os.Started) (noInit:C.prog.inits.idxOf? f=none) (hfn:C.prog.funcs[f]?=some fn)
  (witness:∃(w:World) (tape:Tape) (i:Input),w.os=os∧(w.forCall tape i).Shaped C.prog∧i.vars=[]∧Input.okWide C.prog (w.forCall tape i) .any w.heap.size f i∧
   ((s.pre enc C.prog fn conds apart (w.forCall tape i).memory i.args∧X (w.forCall tape i).memory i.args)∧sizedMet enc C.prog fn (OpenSpec.ofChange s) apart (w.forCall tape i).memory i.args)∧a.holds C.prog (lone (Frame.enter C.prog f i.args .normal) [] (w.forCall tape i)))
  (contract:∀(W:World) (base:Nat) (args:Array Value) (ds gs:List (DataW H)) (before:List MemPlace),
   (∀(j:Nat) t v,fn.params[j]?=some t→args[j]?=some v→Value.okWide C.prog W .any base t v)→
   DataW.Whole enc C.prog fn.params.toList s.vars apart W args.toList ds gs before→W.ShapedOpen C.prog→X W args→
   (DataW.weightsEach C.prog (fn.params.toList++s.plain.varTypes C.prog) (ds++gs)).all (·≤reachBytes)=true→
   Calls C.prog f args W fun e W'=>∃v,e=.returned v∧s.post enc C.prog fn apart fresh handsOn again W args v W'):
  ReturnsInHanded a C os f .any (fun w args=>(s.pre enc C.prog fn conds apart w args∧X w args)∧sizedMet enc C.prog fn (OpenSpec.ofChange s) apart w args) (s.post enc C.prog fn apart fresh handsOn again):=by
 refine returnsInHanded_of_calls own started noInit witness ?_
 intro w tape i _ hsh _ hok hpre _
 obtain⟨_,_,_,fn',hfn',_,_,_,_,hval⟩:=hok
 have e:fn'=fn:=Option.some.inj (hfn'.symm.trans hfn)
 subst e
 obtain⟨⟨⟨ds,gs,before,hw,_⟩,hx⟩,hz⟩:=hpre
 have hw':=DataW.Whole.of_heap (w':=w.forCall tape i) (by rfl) hw
 refine(contract (w.forCall tape i) w.heap.size i.args ds gs before hval hw' hsh (hX _ _ _ (by rfl) hx) (hz.weights hw)).mono fun e W' ⟨v,he,hp⟩=>?_
 subst he
 exact ChangeSpec.post_blind hp
end
def laid7 : List (String × DataW Unit) := [("math/bits.deBruijn32tab", Rows.laid_math_bits_deBruijn32tab), ("math/bits.deBruijn64tab", Rows.laid_math_bits_deBruijn64tab), ("internal/strconv.uint64pow10", Rows.laid_internal_strconv_uint64pow10), ("unicode/utf8.acceptRanges", Rows.laid_unicode_utf8_acceptRanges), ("strconv.ErrRange", Rows.laid_strconv_ErrRange), ("strconv.ErrSyntax", Rows.laid_strconv_ErrSyntax), ("unicode/utf8.first", Rows.laid_unicode_utf8_first)]
theorem own:ownKnob Tryz.prog.godebug=none:=by kernel_rfl
theorem gPow : Tryz.prog.globalNamed "internal/strconv.uint64pow10" = some 1 := by kernel_rfl
theorem powL:(Rows.laid_internal_strconv_uint64pow10:DataW Unit)=.agg ((List.range 20).map fun i=>.lit (.int .u64 ((10 ^ i:Nat):Int))):=by kernel_rfl
theorem max_cell {W:World}(h:W.ShapedOpen Tryz.prog):∃m,W.cell? ⟨0,0,none⟩=some (.int .i64 m):=
 cell_of_shapedOpen_int (g:=0) (t:=3) (zero:=#[.int .i64 0]) h (of_decide_eq_true (by kernel_rfl)) (by kernel_rfl) (by kernel_rfl) (by kernel_rfl) (by kernel_rfl) (by kernel_rfl)
theorem pow_cells {W:World}(h:laidMetH Tryz.prog laid7 W):∀i,i<20→W.cell? ⟨1,i,none⟩=some (.int .u64 ((10 ^ i:Nat):Int)):=by
 rw[MakeChecks.laidMetH_plain _ _ _ (by kernel_rfl)]at h
 obtain⟨ps,⟨_,_,_,_,_,_,_,_,_,_,⟨_,_,_,_,_,_,_,_,_,_,⟨g,t,cs,f,p,q,hg,ht,hv,hd,_,_⟩,_⟩,_⟩,_,_⟩:=h
 obtain rfl:=Option.some.inj (gPow.symm.trans hg)
 obtain rfl:=Option.some.inj ((show (Tryz.prog.globals[1]?).map (·.type)=some 312 by kernel_rfl).symm.trans ht)
 obtain⟨xs,m1,rfl,hx1,hlen,hn3,hel⟩:=DataW.trod_array (show Tryz.prog.underlying 312=some (.array 20 114) by kernel_rfl) hd
 have c1:Tryz.prog.cellsOf 114=1:=by kernel_rfl
 intro i hi
 have h0:=hel i hi
 rw[c1,Nat.mul_one,List.getElem?_eq_getElem (by omega)]at h0
 obtain⟨k,e1,e2,_⟩:=DataW.trod_int (show Tryz.prog.underlying 114=some (.int .u64) by kernel_rfl) h0
 simp only[Prod.mk.injEq]at hx1
 have e3:=hx1.1
 rw[powL]at e3
 simp only[DataW.agg.injEq]at e3
 have e4:((List.range 20).map fun i=>(DataW.lit (.int .u64 ((10 ^ i:Nat):Int)):DataW Unit))[i]?=(xs.map (·.1))[i]?:=by rw[e3]
 rw[List.getElem?_map,List.getElem?_map,List.getElem?_eq_getElem (by omega:i<xs.length),e2,List.getElem?_range hi]at e4
 simp only[Option.map_some,Option.some.injEq,DataW.lit.injEq,Lit.int.injEq,true_and]at e4
 subst e4
 rw[World.var?_cell gPow hv i]
 have e5:(cs.toList.drop i)[0]?=some (.int .u64 ((10 ^ i:Nat):Int)):=by
  have:((cs.toList.drop i).take 1)[0]?=some (Value.int .u64 ((10 ^ i:Nat):Int)):=by rw[e1];rfl
  rw[List.getElem?_take]at this
  simpa using this
 rw[List.getElem?_drop]at e5
 simpa using e5
theorem heap_of_cell {W:World}{b o:Nat}{v:Value}(h:W.cell? ⟨b,o,none⟩=some v):∃C ty fr,W.heap[b]?=some (.cells C ty fr):=by
 unfold World.cell? at h
 cases hh:W.heap[b]? with
 |none=>simp[hh]at h
 |some ob=>cases ob <;> simp[hh]at h;exact⟨_,_,_,rfl⟩
theorem okW {W:World}{m:Int}(hm:W.cell? ⟨0,0,none⟩=some (.int .i64 m))(hp:∀i,i<20→W.cell? ⟨1,i,none⟩=some (.int .u64 ((10 ^ i:Nat):Int))):Ok G0 (sgW W m) .nil 8 W:=by
 refine⟨fun g hg=>if_pos hg,Nat.le_refl _,fun i hi=>if_neg (by omega),(fun i j b B B' h1=>by cases h1),(fun i B h1=>by cases h1),fun b C hb=>⟨?_,fun i B h1=>by cases h1⟩,fun g cs hg=>?_⟩
 ·simp only[sgW]at hb
  split at hb
  ·rename_i C' ty fr hh
   cases hb
   exact⟨ty,fr,hh⟩
  ·cases hb
 ·have hg':tabG g=some cs:=hg
  unfold tabG at hg'
  split at hg'
  ·cases hg'
   obtain⟨C,ty,fr,hh⟩:=heap_of_cell hm
   simp only[Rel]
   rw[cell_at hh]at hm
   refine⟨0,0,C.toList,[.int .i64 m],rfl,by simp[sgW,hh],?_,?_⟩
   ·simp only[RelL,Rel]
    exact⟨_,_,rfl,⟨rfl,rfl,fun _=>⟨m,rfl⟩⟩,rfl⟩
   ·apply List.ext_getElem?
    intro i
    rw[List.drop_zero,List.getElem?_take]
    cases i with
    |zero=>simp[hm]
    |succ i=>simp
  ·cases hg'
   obtain⟨C,ty,fr,hh⟩:=heap_of_cell (hp 0 (by decide))
   simp only[Rel]
   refine⟨1,0,C.toList,(List.range 20).map fun i=>.int .u64 ((10 ^ i:Nat):Int),rfl,by simp[sgW,hh],?_,?_⟩
   ·have:∀l:List Nat,RelL (sgW W m) (l.map fun i=>AV.int .u64 ((10 ^ i:Nat):Int)) (l.map fun i=>Value.int .u64 ((10 ^ i:Nat):Int)):=by
     intro l
     induction l with
     |nil=>rfl
     |cons a l ih=>exact⟨_,_,rfl,by simp only[Rel],ih⟩
    exact this _
   ·apply List.ext_getElem?
    intro i
    rw[List.length_map,List.length_range,List.drop_zero,List.getElem?_take]
    by_cases hi:i<20
    ·have:=hp i hi
     rw[cell_at hh]at this
     rw[if_pos hi,List.getElem?_map,List.getElem?_range hi,Array.getElem?_toList,this]
     rfl
    ·rw[if_neg hi,List.getElem?_eq_none (by simp;omega)]
  ·cases hg'
theorem calls_W {W:World}{m:Int}{f:FuncId}{fn:Func}(hft:cx.ft.get f=some fn){args:List AV}{A:List Value}(ok:Ok G0 (sgW W m) .nil 8 W)(hA:RelL (sgW W m) args A)(hc:Ret Tryz.prog cx f args (.bool true)):
  Calls Tryz.prog f A.toArray W fun e W'=>e=.returned (.bool true)∧Below W.heap.size W W':=by
 have h:=hc .nil 8 (sgW W m) W A ok hA
 obtain⟨_,hcall⟩:=cxok.ft f fn hft
 unfold CR at h
 rw[hcall]at h
 simp only at h
 refine h.mono fun e x q=>?_
 cases e with
 |panicked ch=>exact q.elim
 |outgrown=>exact q.elim
 |returned V=>
  obtain⟨τ,v,g,ny,h1,h2,rfl,_,_⟩:=q
  simp only[Rel]at h1
  subst h1
  exact⟨rfl,h2.fr.os,h2.fr.tape,h2.fr.output,h2.fr.size,fun k hk=>h2.fr.keep k hk fun i B hi=>by cases hi⟩
theorem laidOut:laidOutB Tryz.prog=true:=by kernel_rfl
theorem rel_agg {σ:Sg}{l:List AV}{c:Array Value}(h:RelL σ l c.toList):Rel σ (.agg l) (.agg c):=by
 simp only[Rel]
 exact⟨c.toList,rfl,h⟩
end
end Go.Ev
