/- Texts T66 T67 T69. -/
import Derived.Test.YtjngkeajenankaaGreatDoorP36
set_option linter.unusedSimpArgs false
set_option linter.unusedVariables false
set_option maxRecDepth 100000
namespace Go.Ev
open Go.Proofs Go.RowKit
noncomputable section
def clsN (n:Nat):Nat:=
 if (97≤n∧n≤122)∨(65≤n∧n≤90) then 3 else if 48≤n∧n≤57 then 4 else if n=32∨n=9∨n=10 then 1 else if n∈[59,44,46,58,40,41,91,93,123,125,61] then 6 else if n=60∨n=62 then 7 else if n=35 then 2 else if n=95 then 5 else if n=33 then 8 else 0
def clsL:List Nat:=(List.range 256).map clsN
def encU (l:List Nat):List AV:=l.map fun (n:Nat)=>AV.int .u8 (n:Int)
theorem clsLit_eq:clsLit=encU clsL:=by kernel_rfl
theorem to_cx {f:FuncId}{args:List AV}{u:AV}(h:Ret Tryz.prog cx2 f args u):Ret Tryz.prog cx f args u:=h.tab (by rw[cx2G,cxG];rfl) (fun g cs h=>by rw[cx2G]at h;rw[cxG];exact h)
theorem classes_c:Ret Tryz.prog cx 136 [] (.agg (encU clsL)):=by
 have:=to_cx r136
 rw[clsLit_eq]at this
 exact this
theorem plainL_U:∀l:List Nat,plainL (encU l)=true
 |[]=>rfl
 |n::l=>by
  have:=plainL_U l
  rw[show encU (n::l)=.int .u8 (n:Int)::encU l from rfl]
  simp only[plainL,plain,this,Bool.and_self]
end
end Go.Ev
namespace Go.Ev
open Go.Proofs Go.RowKit
noncomputable section
attribute [-go_sem] pPick lookRes evConvS evStrB
theorem ft93:cx.ft.get 93=some Tryz.f93:=cxS_ft (by decide) (by kernel_rfl)
def clsV (s:ByteArray):AV:=.func 137 [] [.ip [.bs s],.ip (encU clsL)]
theorem clsL_len:clsL.length=256:=by unfold clsL;rw[List.length_map,List.length_range]
theorem encU_len (l:List Nat):(encU l).length=l.length:=by unfold encU;rw[List.length_map]
theorem allOne_U:∀l:List Nat,allOne (encU l)=true
 |[]=>rfl
 |n::l=>by
  have:=allOne_U l
  rw[show encU (n::l)=.int .u8 (n:Int)::encU l from rfl]
  exact this
theorem tokens_c (s:ByteArray):Ret Tryz.prog cx 93 [.bs s] (.func 138 [] [.ip [.bs s],.ip [clsV s]]):=by
 refine Ret.mk fun h nx R hR=>ACall_mk (sz:=8) (rs:=[.tmp 2]) cxok ft93 rfl rfl rfl (by simp) ?_
 simp[go_sem]
 refine Ret.use classes_c ?_
 have hl:(encU clsL).length=256:=by rw[encU_len,clsL_len]
 have ho:=allOne_U clsL
 generalize hT:encU clsL=T at hl ho
 have htk:T.take 256=T:=List.take_of_length_le (by omega)
 simp[go_sem,goOn_some,hl,ho,segL]
 have hp:plainL T=true:=by rw[← hT];exact plainL_U _
 generalize hg:Tr.put _ (nx+1+1) (some (bx 249 [.func 137 [] _] false 0))=g
 have g0:g.get nx=some (bx 9 [.bs s] false 0):=by rw[← hg];simp(disch:=omega) [go_sem,NEx]
 have g1:g.get (nx+1)=some (bx 236 T false 0):=by rw[← hg];simp(disch:=omega) [go_sem]
 have g2:g.get (nx+2)=some (bx 249 [.func 137 [] [.ptr nx 0,.ptr (nx+1) 0]] false 0):=by rw[← hg];simp(disch:=omega) [go_sem]
 have E:Ext nx h g:=by
  rw[← hg]
  simp(disch:=omega)only[ext_put]
  exact Ext.refl _ _
 clear hg
 have f0:=fzPin (nx:=nx) (Nat.le_refl _) g0 rfl
 have f1:=fzPin (nx:=nx) (by omega) g1 hp
 refine hR _ _ _ E (.func 138 _ _ _ _ .nil (.cons _ _ _ _ f0 (.cons _ _ _ _ ?_ .nil)))
 unfold clsV
 rw[hT]
 exact .pin (nx+2) 0 249 1 _ false 0 [.func 137 [] [.ptr nx 0,.ptr (nx+1) 0]] _ (by omega) g2 (by simp) (fun j hj=>by rw[Nat.zero_add,get_putN0]) (.cons _ _ _ _ (.func 137 _ _ _ _ .nil (.cons _ _ _ _ f0 (.cons _ _ _ _ f1 .nil))) .nil)
end
end Go.Ev
namespace Go.Ev
open Go.Proofs Go.RowKit
noncomputable section
attribute [-go_sem] pPick lookRes evConvS evStrB
theorem encU_clsE:encU clsL=clsE fun n=>(clsN n:Int):=by
 unfold encU clsL clsE
 rw[List.map_map]
 rfl
def cl (s:ByteArray) (i:Nat):Int:=clsAt (fun n=>(clsN n:Int)) s i
theorem classV_c (s:ByteArray) (i:Nat):Ret Tryz.prog cx 137 [.int .i64 (i:Int),.ip [.bs s],.ip (encU clsL)] (.int .u8 (cl s i)):=by
 rw[encU_clsE]
 exact class_c _ s i
theorem cl_end {s:ByteArray}{i:Nat}(h:s.size≤i):cl s i=0:=by
 unfold cl clsAt
 rw[dif_neg (by omega)]
def spanC (p:Int→Bool)(s:ByteArray):Nat→Nat→Nat
 |0,i=>i
 |f+1,i=>if p (cl s i) then spanC p s f (i+1) else i
def spanL (s:ByteArray):Nat→Nat→Nat
 |0,i=>i
 |f+1,i=>if h:i<s.size then (if (s[i]).toNat=10 then i else spanL s f (i+1)) else i
theorem spanC_le (p:Int→Bool)(hp:p 0=false)(s:ByteArray):∀(f i:Nat),i≤s.size→i≤spanC p s f i∧spanC p s f i≤s.size
 |0,i,h=>⟨Nat.le_refl _,h⟩
 |f+1,i,h=>by
  rw[spanC]
  by_cases e:p (cl s i)=true
  ·rw[if_pos e]
   have hi:i<s.size:=by
    rcases Nat.lt_or_ge i s.size with q |q
    ·exact q
    ·rw[cl_end q,hp]at e;cases e
   obtain⟨a,b⟩:=spanC_le p hp s f (i+1) hi
   exact⟨by omega,b⟩
  ·rw[if_neg e];exact⟨Nat.le_refl _,h⟩
theorem spanC_all (p:Int→Bool)(s:ByteArray):∀(f i j:Nat),i≤j→j<spanC p s f i→p (cl s j)=true
 |0,i,j,h1,h2=>by rw[spanC]at h2;omega
 |f+1,i,j,h1,h2=>by
  rw[spanC]at h2
  by_cases e:p (cl s i)=true
  ·rw[if_pos e]at h2
   rcases Nat.eq_or_lt_of_le h1 with q |q
   ·rw[← q];exact e
   ·exact spanC_all p s f (i+1) j q h2
  ·rw[if_neg e]at h2;omega
theorem spanL_le (s:ByteArray):∀(f i:Nat),i≤s.size→i≤spanL s f i∧spanL s f i≤s.size
 |0,i,h=>⟨Nat.le_refl _,h⟩
 |f+1,i,h=>by
  rw[spanL]
  by_cases e:i<s.size
  ·rw[dif_pos e]
   by_cases e2:(s[i]).toNat=10
   ·rw[if_pos e2];exact⟨Nat.le_refl _,h⟩
   ·rw[if_neg e2]
    obtain⟨a,b⟩:=spanL_le s f (i+1) e
    exact⟨by omega,b⟩
  ·rw[dif_neg e];exact⟨Nat.le_refl _,h⟩
theorem cls_digit {n:Nat}(h:clsN n=4):48≤n∧n≤57:=by
 unfold clsN at h
 by_cases h1:(97≤n∧n≤122)∨(65≤n∧n≤90)
 ·rw[if_pos h1]at h;cases h
 rw[if_neg h1]at h
 by_cases h2:48≤n∧n≤57
 ·exact h2
 rw[if_neg h2]at h
 exfalso
 repeat' split at h
 all_goals cases h
structure Tk where
 kind:Int
 text:ByteArray
 num:Int
 pos:Int
 code:Int
def Tk.cs (t:Tk):List AV:=[.int .i64 t.kind,.bs t.text,.int .i64 t.num,.int .i64 t.pos,.int .i64 t.code]
def isWord (c:Int):Bool:=decide (c=3) || (decide (c=4) || decide (c=5))
def isDigit (c:Int):Bool:=decide (c=4)
def tokAt (s:ByteArray) (i:Nat):Tk×Nat:=
 if cl s i=3 then
  let j:=spanC isWord s s.size i
  (⟨1,s.extract i j,0,(i:Int),if 24<j-i then 2 else 0⟩,j)
 else if cl s i=4 then
  let j:=spanC isDigit s s.size i
  if 7<j-i∨cl s j=3∨cl s j=5 then (⟨2,s.extract i j,0,(i:Int),4⟩,j)
  else (⟨2,s.extract i j,atoiF (s.extract i j).data.toList 0,(i:Int),0⟩,j)
 else if cl s i=6∨cl s i=7∨cl s i=8 then
  if cl s i≠6∧(∃h:i+1<s.size,(s[i+1]).toNat=61) then (⟨3,s.extract i (i+2),0,(i:Int),0⟩,i+2)
  else (⟨3,s.extract i (i+1),0,(i:Int),if cl s i=8 then 3 else 0⟩,i+1)
 else (⟨0,s.extract i i,0,(i:Int),3⟩,i)
end
end Go.Ev
