/- Texts X7. -/
import Derived.Test.YtjngkeajenankaaGreatDoorP41
import Derived.Test.YtjngkeajenankaaGreatDoorP42
set_option linter.unusedSimpArgs false
set_option linter.unusedVariables false
set_option maxRecDepth 100000
namespace Go.Ev
open Go.Proofs Go.RowKit
noncomputable section
mutual
def asB:AV→AV
 |.str l n=>.bs (strB l n)
 |.ip cs=>.ip (asL cs)
 |.fz es full xs=>.fz es full (asL xs)
 |.func f a c=>.func f (asL a) (asL c)
 |.iface t v=>.iface t (asB v)
 |.agg l=>.agg (asL l)
 |.tup l=>.tup (asL l)
 |v=>v
def asL:List AV→List AV
 |[]=>[]
 |v::l=>asB v::asL l
end
mutual
def okS:AV→Bool
 |.str l n=>Nat.blt n (256 ^ l)
 |.ip cs=>okL cs
 |.fz _ _ xs=>okL xs
 |.func _ a c=>okL a && okL c
 |.iface _ v=>okS v
 |.agg l=>okL l
 |.tup l=>okL l
 |_=>true
def okL:List AV→Bool
 |[]=>true
 |v::l=>okS v && okL l
end
theorem asL_len:∀l:List AV,(asL l).length=l.length
 |[]=>by simp[asL]
 |v::l=>by simp[asL,asL_len l]
mutual
theorem Rel.asB {σ:Sg}:∀(v:AV)(V:Value),okS v=true→(Rel σ (asB v) V↔Rel σ v V)
 |.str l n,V,h=>by
  have h:n<256 ^ l:=by simpa[okS,Nat.blt_eq]using h
  simp only[Go.Ev.asB,Rel]
  exact⟨fun e=>⟨h,e⟩,fun e=>e.2⟩
 |.ip cs,V,h=>by
  simp only[okS]at h
  simp only[Go.Ev.asB,Rel]
  constructor
  ·rintro⟨b,o,C,L,e,h1,h2,h3⟩
   exact⟨b,o,C,L,e,h1,(RelL.asB cs L h).1 h2,h3⟩
  ·rintro⟨b,o,C,L,e,h1,h2,h3⟩
   exact⟨b,o,C,L,e,h1,(RelL.asB cs L h).2 h2,h3⟩
 |.fz es full xs,V,h=>by
  simp only[okS]at h
  simp only[Go.Ev.asB,Rel,asL_len]
  constructor
  ·rintro⟨a,cap,e,h1,h2,h4,h3⟩
   refine⟨a,cap,e,h1,h2,h4,fun hx=>?_⟩
   obtain⟨b,o,C,L,e1,h1,h2,h3⟩:=h3 hx
   exact⟨b,o,C,L,e1,h1,(RelL.asB xs L h).1 h2,h3⟩
  ·rintro⟨a,cap,e,h1,h2,h4,h3⟩
   refine⟨a,cap,e,h1,h2,h4,fun hx=>?_⟩
   obtain⟨b,o,C,L,e1,h1,h2,h3⟩:=h3 hx
   exact⟨b,o,C,L,e1,h1,(RelL.asB xs L h).2 h2,h3⟩
 |.func f a c,V,h=>by
  simp only[okS,Bool.and_eq_true]at h
  simp only[Go.Ev.asB,Rel]
  constructor
  ·rintro⟨A,C,e,h1,h2⟩
   exact⟨A,C,e,(RelL.asB a A h.1).1 h1,(RelL.asB c C h.2).1 h2⟩
  ·rintro⟨A,C,e,h1,h2⟩
   exact⟨A,C,e,(RelL.asB a A h.1).2 h1,(RelL.asB c C h.2).2 h2⟩
 |.iface t v,V,h=>by
  simp only[okS]at h
  simp only[Go.Ev.asB,Rel]
  constructor
  ·rintro⟨U,e,h1⟩
   exact⟨U,e,(Rel.asB v U h).1 h1⟩
  ·rintro⟨U,e,h1⟩
   exact⟨U,e,(Rel.asB v U h).2 h1⟩
 |.agg l,V,h=>by
  simp only[okS]at h
  simp only[Go.Ev.asB,Rel]
  constructor
  ·rintro⟨L,e,h1⟩
   exact⟨L,e,(RelL.asB l L h).1 h1⟩
  ·rintro⟨L,e,h1⟩
   exact⟨L,e,(RelL.asB l L h).2 h1⟩
 |.tup l,V,h=>by
  simp only[okS]at h
  simp only[Go.Ev.asB,Rel]
  constructor
  ·rintro⟨L,e,h1⟩
   exact⟨L,e,(RelL.asB l L h).1 h1⟩
  ·rintro⟨L,e,h1⟩
   exact⟨L,e,(RelL.asB l L h).2 h1⟩
 |.bool _,_,_=>by simp only[Go.Ev.asB]
 |.int _ _,_,_=>by simp only[Go.Ev.asB]
 |.bs _,_,_=>by simp only[Go.Ev.asB]
 |.ptr0,_,_=>by simp only[Go.Ev.asB]
 |.ptr _ _,_,_=>by simp only[Go.Ev.asB]
 |.sl0,_,_=>by simp only[Go.Ev.asB]
 |.sl _ _ _ _ _,_,_=>by simp only[Go.Ev.asB]
 |.map0,_,_=>by simp only[Go.Ev.asB]
 |.map _,_,_=>by simp only[Go.Ev.asB]
 |.nilFunc,_,_=>by simp only[Go.Ev.asB]
 |.nilIface,_,_=>by simp only[Go.Ev.asB]
 |.opq _,_,_=>by simp only[Go.Ev.asB]
 |.yld _,_,_=>by simp only[Go.Ev.asB]
theorem RelL.asB {σ:Sg}:∀(l:List AV)(L:List Value),okL l=true→(RelL σ (asL l) L↔RelL σ l L)
 |[],L,_=>by simp only[asL]
 |v::l,L,h=>by
  simp only[okL,Bool.and_eq_true]at h
  simp only[asL,RelL]
  constructor
  ·rintro⟨V,L',e,h1,h2⟩
   exact⟨V,L',e,(Rel.asB v V h.1).1 h1,(RelL.asB l L' h.2).1 h2⟩
  ·rintro⟨V,L',e,h1,h2⟩
   exact⟨V,L',e,(Rel.asB v V h.1).2 h1,(RelL.asB l L' h.2).2 h2⟩
end
theorem Ret.asB {f:FuncId}{args:List AV}{u:AV}(hr:Ret Tryz.prog cx2 f args u)(ha:okL args=true)(hu:okS u=true):Ret Tryz.prog cx f (asL args) (Go.Ev.asB u):=by
 intro h nx σ w A hk hA
 refine((to_cx' hr) h nx σ w A hk ((RelL.asB args A ha).1 hA)).mono fun V x ⟨τ,v,g,ny,h1,h2,h3,h4,h5⟩=>?_
 subst h3
 subst h4
 subst h5
 exact⟨τ,_,_,_,(Rel.asB _ V hu).2 h1,h2,rfl,rfl,rfl⟩
end
end Go.Ev
