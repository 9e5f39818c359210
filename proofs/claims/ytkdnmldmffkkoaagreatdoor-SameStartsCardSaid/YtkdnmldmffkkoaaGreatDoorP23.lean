/- Texts T50 T51 T52 T53 T54. -/
import Derived.Test.YtkdnmldmffkkoaaGreatDoorP22
set_option linter.unusedSimpArgs false
set_option linter.unusedVariables false
set_option maxRecDepth 100000
namespace Go.Ev
open Go.Proofs Go.RowKit
noncomputable section
attribute [-go_sem] zaf zac zay
theorem zLi:cx.ft.get 143=some Tryz.f143:=za9 (by decide) (by kernel_rfl)
def zcg (f:Fm)(x:Fc):List Int:=zby ((zbc (zcf x.name [x.lo] f)).filter fun y=>!zcb x y)
theorem zyu {g:Tr ABlk}{nx b:Nat}{s r:List Int}{cp esz:Nat}{op opn:Bool}(hb:nx≤b)(hg:g.get b=some (bx 3 (za5 (s++r)) opn esz)):Fz g nx (.sl b 0 s.length cp op) (.fz 1 false (za5 s)):=
 .slz b 0 _ cp op 3 _ _ opn esz 1 (za5 s) (za5 s) (za5 s) hb hg (by simp[za5]) (fun j hj=>by
  rw[Nat.zero_add,zbt]
  have hj2:j<s.length:=by simpa[za5]using hj
  simp only[za5,List.map_append]
  rw[List.getElem?_append_left (by simpa using hj2)]) (FzL.same _ (zhw s)) (zrg s) (zp0 s)
set_option maxHeartbeats 1000000 in
theorem zGv (f:Fm)(x:Fc)(hf:f.size≤1000000):Ret Tryz.prog cx 143 [.agg f.cs,.agg x.cs] (.fz 1 false (za5 (zcg f x))):=by
 refine Ret.mk fun h nx R hR=>zaa (sz:=21) (rs:=[.tmp 4]) za4 zLi rfl rfl rfl (by simp) ?_
 obtain⟨xn,xk,xlo,xhi⟩:=x
 obtain⟨fcs,hfcs⟩:∃l,l=f.cs:=⟨_,rfl⟩
 have hf5:fcs.length=5:=by rw[hfcs];cases f;rfl
 rw[← hfcs]
 have z1:¬nx+1=nx+1+1:=by omega
 have z2:¬nx=nx+2+1:=by omega
 have z3:¬nx=nx+2+1+1:=by omega
 have z4:¬nx=nx+1+1:=by omega
 have hft:fcs.take 5=fcs:=List.take_of_length_le (by omega)
 simp-implicitDefEqProofs[go_sem,Fc.cs,za3,hf5,z2,z3,z4,hft]
 generalize hg0:Tr.put _ (nx+2+1+1) (some (bx 228 [AV.func 199 _ _] false 0))=h0
 have E0:Ext nx h h0:=by
  rw[← hg0]
  simp(disch:=omega)only[za6]
  exact Ext.refl _ _
 have hS:StW ⟨xn,xk,xlo,xhi⟩ (nx+1) (nx+3) (nx+4) (nx+2) [xlo] h0 (nx+5):=by
  refine⟨by omega,by omega,by omega,by omega,by omega,by omega,by omega,by omega,by omega,?_,⟨false,?_,?_⟩,?_⟩
  all_goals (rw[← hg0];simp(disch:=omega) [go_sem,NEx,Fc.cs,za5])
 clear hg0
 rw[hfcs]
 refine zFx ⟨xn,xk,xlo,xhi⟩ (nx+1) (nx+3) (nx+4) f.size f [xlo] h0 (nx+5) (nx+2) _ (Nat.le_refl _) hf (by simp;omega) hS fun g ny q c1 c2 c3 c4=>?_
 have hnl:=zlb xn f [xlo]
 have hres:zcg f ⟨xn,xk,xlo,xhi⟩=zby ((zbc (zcf xn [xlo] f)).filter fun y=>!zcb ⟨xn,xk,xlo,xhi⟩ y):=rfl
 rw[hres]at hR
 have E1:Ext nx h g:=fun k hk=>by rw[c1 k (by omega) (by omega) (by omega)];exact E0 k hk
 obtain⟨_,_,_,lq,_,m1,_,_,m2,ga,⟨op,gp,gq⟩,_⟩:=c4
 simp only at gp gq hnl
 generalize zcf xn [xlo] f=L1 at *
 generalize (if op then 0 else L1.length)=cp at gp
 generalize (if op then 1 else 0)=esz at gq
 clear c1 E0 hS
 simp only[List.length_cons,List.length_nil]at hnl
 have hql:nx≤q:=by omega
 simp-implicitDefEqProofs[go_sem,za0,gp]
 refine zzk L1 g ny q cp esz op op gq (by omega) _ ?_
 have k1:¬nx+3=q:=by omega
 simp-implicitDefEqProofs[go_sem,za0,gp,k1]
 have hsl:=zoc L1
 have hga:(g.put q (some (bx 3 (za5 (zbc L1)) op esz))).get (nx+1)=some (bx 65 [.bs xn,.int .i64 xk,.int .i64 xlo,.int .i64 xhi] false 0):=by
  simp[go_sem,show ¬nx+1=q by omega]
  exact ga
 refine zng (fun a=>a∈[nx+1]) (FyH.kill _) (args':=[.sl q 0 L1.length cp op,.func 202 [] [.ip (Fc.cs ⟨xn,xk,xlo,xhi⟩)]]) ?_ ?_
 ·refine .cons _ _ _ _ (.same _) (.cons _ _ _ _ (.func _ _ _ _ _ .nil (.cons _ _ _ _ (.pin _ _ 65 4 _ false 0 [.bs xn,.int .i64 xk,.int .i64 xlo,.int .i64 xhi] _ (by simp) hga (by simp) (fun j hj=>by rw[Nat.zero_add,zbt]) (FyL.same _)) .nil)) .nil)
 have gq2:(zdd (g.put q (some (bx 3 (za5 (zbc L1)) op esz))) [nx+1]).get q=some (bx 3 (za5 (zbc L1)) op esz):=by
  rw[zfa (by simp;omega)]
  simp[go_sem]
 rw[← hsl]
 refine zG4 ⟨xn,xk,xlo,xhi⟩ (zbc L1) _ ny q cp esz op op gq2 (by omega) _ ?_
 have hp2:∀B,((zdd (g.put q (some (bx 3 (za5 (zbc L1)) op esz))) [nx+1]).put q B).get (nx+3)=some (bx 40 [.sl q 0 L1.length cp op] false 0):=by
  intro B
  rw[Tr.get_put,if_neg k1,zfa (by simp),Tr.get_put,if_neg k1]
  exact gp
 have E2:∀B,Ext nx h ((zdd (g.put q (some (bx 3 (za5 (zbc L1)) op esz))) [nx+1]).put q B):=by
  intro B k hk
  rw[Tr.get_put,if_neg (by omega),zfa (by simp;omega),Tr.get_put,if_neg (by omega)]
  exact E1 k hk
 have hfl:=List.length_filter_le (fun y=>!zcb ⟨xn,xk,xlo,xhi⟩ y) (zbc L1)
 generalize hL2:(zbc L1).filter (fun y=>!zcb ⟨xn,xk,xlo,xhi⟩ y)=L2 at *
 generalize List.replicate ((zbc L1).length-L2.length) (0:Int)=r2 at *
 have gq3:((zdd (g.put q (some (bx 3 (za5 (zbc L1)) op esz))) [nx+1]).put q (some (bx 3 (za5 (L2++r2)) op esz))).get q=some (bx 3 (za5 (L2++r2)) op esz):=by simp[go_sem]
 have hp3:=hp2 (some (bx 3 (za5 (L2++r2)) op esz))
 have E3:=E2 (some (bx 3 (za5 (L2++r2)) op esz))
 generalize (zdd (g.put q (some (bx 3 (za5 (zbc L1)) op esz))) [nx+1]).put q (some (bx 3 (za5 (L2++r2)) op esz))=g5 at *
 simp-implicitDefEqProofs[go_sem,za0,hp3,za3]
 refine zCw L2 r2 _ ny q cp esz op op (by simp[go_sem,show ¬q=nx+3 by omega,gq3]) (by omega) _ fun r'=>?_
 simp-implicitDefEqProofs[go_sem,za0]
 refine hR _ _ _ ?_ (zyu (opn:=op) (esz:=esz) (r:=r') hql (by simp[go_sem]))
 simp(disch:=omega)only[za6]
 exact E3
end
end Go.Ev
namespace Go.Ev
open Go.Proofs Go.RowKit
noncomputable section
mutual
def FmG:Fm→Prop
 |.mk o n c m kids=>I64 o∧I64 c∧I64 m∧n.size≤1000∧(o=5→kids≠[])∧zdb kids
def zdb:List Fm→Prop
 |[]=>True
 |f::l=>FmG f∧zdb l
end
theorem zzn:∀{l:List Fm},zdb l→∀f∈l,FmG f
 |[],_,f,h=>by cases h
 |x::l,hl,f,h=>by
  rcases List.mem_cons.1 h with rfl |h
  ·exact hl.1
  ·exact zzn hl.2 f h
theorem zFf:∀{l:List Fm},(∀f∈l,FmG f)→zdb l
 |[],_=>trivial
 |x::l,h=>⟨h x List.mem_cons_self,zFf fun f hf=>h f (List.mem_cons_of_mem _ hf)⟩
mutual
theorem FmG.I:∀{f:Fm},FmG f→FmI f
 |.mk o n c m kids,h=>⟨h.1,h.2.1,h.2.2.1,zdb.I h.2.2.2.2.2⟩
theorem zdb.I:∀{l:List Fm},zdb l→zpg l
 |[],_=>trivial
 |f::l,h=>⟨FmG.I h.1,zdb.I h.2⟩
end
mutual
theorem FmG.notOk:∀{f:Fm},FmG f→notOk f
 |.mk o n c m kids,h=>⟨h.2.2.2.2.1,zdb.notOk h.2.2.2.2.2⟩
theorem zdb.notOk:∀{l:List Fm},zdb l→zpb l
 |[],_=>trivial
 |f::l,h=>⟨FmG.notOk h.1,zdb.notOk h.2⟩
end
mutual
theorem FmG.spell:∀{f:Fm},FmG f→(ze3 f).length≤1100 * f.size
 |.mk o n c m kids,h=>by
  obtain⟨h1,h2,h3,h4,_,h6⟩:=h
  have a1:=zid o h1
  have a2:=zid c h2
  have a3:=zid m h3
  have a4:=zdb.spell h6
  simp[ze3,Fm.size]
  omega
theorem zdb.spell:∀{l:List Fm},zdb l→(zes l).length≤1100 * zae l
 |[],_=>by simp[zes]
 |f::l,h=>by
  have a1:=FmG.spell h.1
  have a2:=zdb.spell h.2
  simp[zes,zae]
  omega
end
theorem zg0 {n:Int}(h1:0≤n)(h2:n≤10):I64 n:=⟨by omega,by omega⟩
theorem zEg (b:Bool):FmG (zfi b)∧(zfi b).size=1:=by
 cases b <;> exact⟨⟨zg0 (by simp) (by simp),zg0 (by simp) (by simp),zg0 (by simp) (by simp),by simp,by simp,trivial⟩,rfl⟩
theorem Fm.size_pos (f:Fm):1≤f.size:=by cases f;simp[Fm.size]
theorem zJy (l m:List Fm):zae (l++m)=zae l+zae m:=by
 induction l with
 |nil=>simp[zae]
 |cons x l ih=>simp[zae,ih];omega
theorem zqe {o u z:Int}(ho:I64 o)(h5:o≠5)(hu:0≤u∧u≤2):∀(l acc:List Fm),zdb acc→zdb l→FmG (zd1 o u z acc l)∧(zd1 o u z acc l).size≤1+zae acc+zae l
 |[],acc,ha,_=>by
  match acc,ha with
  |[],_=>
   have e:zd1 o u z [] []=.mk u .empty 0 0 []:=rfl
   rw[e]
   exact⟨⟨zg0 hu.1 (by omega),zg0 (by simp) (by simp),zg0 (by simp) (by simp),by simp,by omega,trivial⟩,by simp[Fm.size,zae]⟩
  |[k],ha=>
   have e:zd1 o u z [k] []=k:=rfl
   rw[e]
   exact⟨ha.1,by simp[zae]⟩
  |k1::k2::ks,ha=>
   have e:zd1 o u z (k1::k2::ks) []=.mk o .empty 0 0 (k1::k2::ks):=rfl
   rw[e]
   exact⟨⟨ho,zg0 (by simp) (by simp),zg0 (by simp) (by simp),by simp,fun e=>absurd e h5,ha⟩,by simp[Fm.size,zae]⟩
 |k::l,acc,ha,hl=>by
  rw[zd1]
  by_cases e1:k.op=z
  ·rw[if_pos e1]
   exact⟨hl.1,by simp[zae];omega⟩
  ·rw[if_neg e1]
   by_cases e2:k.op=u
   ·rw[if_pos e2]
    obtain⟨a1,a2⟩:=zqe (z:=z) ho h5 hu l acc ha hl.2
    exact⟨a1,by simp[zae];omega⟩
   ·rw[if_neg e2]
    obtain⟨a1,a2⟩:=zqe (z:=z) ho h5 hu l (acc++[k]) (zFf fun f hf=>by
     rcases List.mem_append.1 hf with q |q
     ·exact zzn ha f q
     ·simp at q;subst q;exact hl.1) hl.2
    refine⟨a1,?_⟩
    rw[zJy]at a2
    simp[zae]at a2 ⊢
    omega
mutual
theorem zmq (nm:ByteArray) (v:Int):∀{f:Fm},FmG f→FmG (zb6 nm v f)∧(zb6 nm v f).size≤f.size
 |.mk o n c m kids,h=>by
  have hp:=Fm.size_pos (.mk o n c m kids)
  rw[zb6]
  by_cases e3:o=3
  ·rw[if_pos e3]
   by_cases en:n=nm
   ·rw[if_pos en]
    obtain⟨a1,a2⟩:=zEg (zgm v c m)
    exact⟨a1,by omega⟩
   ·rw[if_neg en];exact⟨h,Nat.le_refl _⟩
  ·rw[if_neg e3]
   obtain⟨b1,b2⟩:=zB8 nm v h.2.2.2.2.2
   by_cases e5:o=5
   ·rw[if_pos e5]
    match hk:zeo nm v kids with
    |[]=>exact⟨h,Nat.le_refl _⟩
    |k::ks=>
     rw[hk]at b1 b2
     simp only
     by_cases ek:k.op=1∨k.op=2
     ·rw[if_pos ek]
      obtain⟨a1,a2⟩:=zEg (decide (k.op=2))
      exact⟨a1,by omega⟩
     ·rw[if_neg ek]
      refine⟨⟨zg0 (by simp) (by simp),zg0 (by simp) (by simp),zg0 (by simp) (by simp),by simp,by simp,b1.1,trivial⟩,?_⟩
      simp[Fm.size,zae]at b2 ⊢
      omega
   ·rw[if_neg e5]
    by_cases e6:o=6
    ·rw[if_pos e6]
     obtain⟨a1,a2⟩:=zqe (z:=2) h.1 e5 (u:=1) (by simp) (zeo nm v kids) [] trivial b1
     refine⟨a1,?_⟩
     simp[zae]at a2
     simp[Fm.size]
     omega
    ·rw[if_neg e6]
     by_cases e7:o=7
     ·rw[if_pos e7]
      obtain⟨a1,a2⟩:=zqe (z:=1) h.1 e5 (u:=2) (by simp) (zeo nm v kids) [] trivial b1
      refine⟨a1,?_⟩
      simp[zae]at a2
      simp[Fm.size]
      omega
     ·rw[if_neg e7];exact⟨h,Nat.le_refl _⟩
theorem zB8 (nm:ByteArray) (v:Int):∀{l:List Fm},zdb l→zdb (zeo nm v l)∧zae (zeo nm v l)≤zae l
 |[],_=>⟨trivial,Nat.le_refl _⟩
 |f::l,h=>by
  obtain⟨a1,a2⟩:=zmq nm v h.1
  obtain⟨b1,b2⟩:=zB8 nm v h.2
  rw[zeo]
  exact⟨⟨a1,b1⟩,by simp[zae];omega⟩
end
mutual
theorem zBy (nm:ByteArray) (y:Int):∀(f:Fm)(L:List Int),y∈L→y∈zcf nm L f
 |.mk o n c m kids,L,h=>by
  rw[zcf]
  refine zDd nm y kids _ ?_
  split
  ·exact List.mem_append_left _ h
  ·exact h
theorem zDd (nm:ByteArray) (y:Int):∀(l:List Fm)(L:List Int),y∈L→y∈zcs nm L l
 |[],L,h=>by rw[zcs];exact h
 |f::l,L,h=>by rw[zcs];exact zDd nm y l _ (zBy nm y f L h)
end
theorem zRj (d:Array Int):Lib.keeps d 0=true:=Lib.keeps_lt_one d 0 (by omega)
theorem zys {L:List Int}(h:L≠[]):zby L≠[]:=by
 intro e
 have h1:(zby L).length=0:=by rw[e];rfl
 unfold zby Lib.compact Lib.compactUpTo at h1
 rw[List.length_map]at h1
 have h2:(0:Nat)∈(List.range L.length).filter (Lib.keeps L.toArray):=by
  rw[List.mem_filter]
  refine⟨List.mem_range.2 (List.length_pos_iff.2 h),zRj _⟩
 have:=List.length_pos_of_mem h2
 omega
theorem zCx (f:Fm)(x:Fc)(hx:x.lo≤x.hi):zcg f x≠[]:=by
 apply zys
 have h1:x.lo∈zcf x.name [x.lo] f:=zBy _ _ f _ (by simp)
 have h2:x.lo∈zbc (zcf x.name [x.lo] f):=by
  unfold zbc
  exact List.mem_mergeSort.2 h1
 have h3:x.lo∈(zbc (zcf x.name [x.lo] f)).filter fun y=>!zcb x y:=by
  rw[List.mem_filter]
  refine⟨h2,?_⟩
  simp[zcb]
  omega
 exact List.ne_nil_of_mem h3
theorem zz9 {L:List Int}{y:Int}(h:y∈zby L):y∈L:=by
 unfold zby Lib.compact Lib.compactUpTo at h
 obtain⟨k,hk,rfl⟩:=List.mem_map.1 h
 have:=List.mem_range.1 (List.mem_filter.1 hk).1
 rw[getElem!_pos _ k (by simpa using this)]
 simp
theorem zC0 (f:Fm)(x:Fc):∀y∈zcg f x,x.lo≤y∧y≤x.hi:=by
 intro y hy
 have:=(List.mem_filter.1 (zz9 hy)).2
 simp[zcb]at this
 omega
theorem zwy (f:Fm)(x:Fc):(zcg f x).length≤1+2 * f.size:=by
 have h1:=zx3 ((zbc (zcf x.name [x.lo] f)).filter fun y=>!zcb x y)
 have h2:=List.length_filter_le (fun y=>!zcb x y) (zbc (zcf x.name [x.lo] f))
 have h3:=zoc (zcf x.name [x.lo] f)
 have h4:=zlb x.name f [x.lo]
 simp only[List.length_cons,List.length_nil]at h4
 unfold zcg
 omega
structure GS where
 L:List Nd
 D:List (ByteArray×Int)
 full:Bool
def zb9 (b:Bool):Nd:=⟨0,[],[],b⟩
def zbn (n:Nd)(S:GS):Int×GS:=((zeq S.L n:Int),{ S with L:=zeh S.L n })
def ze6 (t:ByteArray):List (ByteArray×Int)→Option Int
 |[]=>none
 |(k,v)::l=>if t=k then some v else ze6 t l
def zej (t:ByteArray) (v:Int):List (ByteArray×Int)→List (ByteArray×Int)
 |[]=>[(t,v)]
 |(k,w)::l=>if t=k then (k,v)::l else (k,w)::zej t v l
def zc1 (g:Int→GS→Int×GS):List Int→GS→List Int×GS
 |[],S=>([],S)
 |v::l,S=>((g v S).1::(zc1 g l (g v S).2).1,(zc1 g l (g v S).2).2)
def zla (i:Nat)(f:Fm):ByteArray:=⟨(Lib.itoa (i:Int)).toArray⟩++⟨(ze3 f).toArray⟩
def zd2 (l:List Int):Int:=l.headD 0
def zdg (i:Nat)(st ks:List Int)(S:GS):Int×GS:=
 let n:Nd:=⟨(i:Int),(zax (zd2 ks) [] [zd2 ks] st ks).2.1,(zax (zd2 ks) [] [zd2 ks] st ks).2.2,false⟩
 if n.kids.length=1 then (zd2 ks,S) else zbn n S
def zdy (S:GS):Bool:=S.full || decide (20000<S.L.length)
def zb5 (d:List Fc):Nat→Fm→GS→Int×GS
 |0,f,S=>if f.op=1∨f.op=2 then zbn (zb9 (decide (f.op=1))) S else zbn (zb9 false) { S with full:=zdy S }
 |k+1,f,S=>if f.op=1∨f.op=2 then zbn (zb9 (decide (f.op=1))) S else
   if zdy S then zbn (zb9 false) { S with full:=true } else
   match ze6 (zla (d.length-(k+1)) f) S.D with
   |some v=>(v,{ S with full:=false })
   |none=>
    let x:=d.getD (d.length-(k+1)) ⟨.empty,0,0,0⟩
    let r:=zc1 (fun v S=>zb5 d k (zb6 x.name v f) S) (zcg f x) { S with full:=false }
    let o:=zdg (d.length-(k+1)) (zcg f x) r.1 r.2
    (o.1,{ o.2 with D:=zej (zla (d.length-(k+1)) f) o.1 o.2.D })
def zkk (n:Nd):Bool:=!n.kids.isEmpty
def inn (L:List Nd):Nat:=(L.filter zkk).length
structure GI (S:GS):Prop where
 nd:(S.L.map zb3).Nodup
 wk:WK S.L
 ni:∀n∈S.L,NdI n
 lf:∀n∈S.L,n.kids=[]→n=zb9 true∨n=zb9 false
 dv:∀p∈S.D,0≤p.2∧p.2<(S.L.length:Int)
theorem zy7 {α:Type} [DecidableEq α]:∀{l m:List α},l.Nodup→(∀x∈l,x∈m)→l.length≤m.length
 |[],m,_,_=>by simp
 |x::t,m,h,hs=>by
  have hx:x∈m:=hs x List.mem_cons_self
  obtain⟨h1,h2⟩:=List.nodup_cons.1 h
  have:=zy7 (l:=t) (m:=m.erase x) h2 fun y hy=>(List.mem_erase_of_ne (fun e:y=x=>h1 (e ▸ hy))).2 (hs y (List.mem_cons_of_mem _ hy))
  rw[List.length_erase_of_mem hx]at this
  have:=List.length_pos_of_mem hx
  simp only[List.length_cons]
  omega
theorem zFg {α:Type}(p:α→Bool):∀l:List α,l.length=(l.filter p).length+(l.filter fun x=>!p x).length
 |[]=>rfl
 |x::l=>by
  have:=zFg p l
  cases h:p x <;> simp[h] <;> omega
open Classical in
theorem GI.len {S:GS}(h:GI S):S.L.length≤inn S.L+2:=by
 have h1:(S.L.filter fun n=>!zkk n).length≤2:=by
  have hn:(S.L.filter fun n=>!zkk n).Nodup:=by
   have:S.L.Nodup:=by
    have:=List.pairwise_map.1 h.nd
    exact this.imp fun {a b} hne e=>hne (by rw[e])
   exact this.filter _
  have:=zy7 (α:=Nd) (m:=[zb9 true,zb9 false]) hn fun x hx=>by
   obtain⟨a,b⟩:=List.mem_filter.1 hx
   have hk:x.kids=[]:=by
    unfold zkk at b
    cases hk:x.kids with
    |nil=>rfl
    |cons y ys=>rw[hk]at b;simp at b
   rcases h.lf x a hk with e |e <;> simp[e]
  simpa using this
 have h2:=zFg zkk S.L
 unfold inn
 omega
structure GLe (S S':GS):Prop where
 pre:∃t,S'.L=S.L++t
theorem GLe.refl (S:GS):GLe S S:=⟨⟨[],by simp⟩⟩
theorem GLe.trans {A B C:GS}(h:GLe A B)(k:GLe B C):GLe A C:=by
 obtain⟨t,e⟩:=h.pre
 obtain⟨u,e2⟩:=k.pre
 exact⟨⟨t++u,by rw[e2,e,List.append_assoc]⟩⟩
theorem GLe.len {S S':GS}(h:GLe S S'):S.L.length≤S'.L.length:=by
 obtain⟨t,e⟩:=h.pre
 rw[e];simp
def ztv (n:Nd)(L:List Nd):Prop:=NdI n∧(n.kids=[]→n=zb9 true∨n=zb9 false)∧∀x∈n.kids,0≤x∧x<(L.length:Int)
theorem zmu (b:Bool)(L:List Nd):ztv (zb9 b) L:=⟨⟨zg0 (by simp[zb9]) (by simp[zb9]),by simp[zb9],by simp[zb9],by simp[zb9],by simp[zb9]⟩,fun _=>by cases b <;> simp,by simp[zb9]⟩
theorem zmv {S:GS}{n:Nd}(h:GI S)(hn:ztv n S.L):GI (zbn n S).2∧(0≤(zbn n S).1∧(zbn n S).1<((zbn n S).2.L.length:Int))∧GLe S (zbn n S).2∧inn (zbn n S).2.L≤inn S.L+(if n.kids=[] then 0 else 1):=by
 have hlt:=zM3 S.L n
 obtain⟨n1,n2,n3⟩:=hn
 refine⟨?_,⟨by simp[zbn],by simp only[zbn];omega⟩,?_,?_⟩
 ·by_cases hm:zb3 n∈S.L.map zb3
  ·have:(zbn n S).2=S:=by simp[zbn,zeh,hm]
   rw[this];exact h
  ·have hL:(zbn n S).2.L=S.L++[n]:=by simp[zbn,zeh,hm]
   have hD:(zbn n S).2.D=S.D:=rfl
   refine⟨?_,?_,?_,?_,?_⟩
   ·rw[hL,List.map_append]
    refine List.nodup_append.2 ⟨h.nd,by simp,?_⟩
    intro x hx y hy e
    simp at hy
    subst hy
    exact hm (e ▸ hx)
   ·rw[hL]
    intro x hx y hy
    rw[List.length_append]
    rcases List.mem_append.1 hx with q |q
    ·have:=h.wk x q y hy
     simp
     omega
    ·simp at q
     subst q
     have:=n3 y hy
     simp
     omega
   ·rw[hL]
    intro x hx
    rcases List.mem_append.1 hx with q |q
    ·exact h.ni x q
    ·simp at q;subst q;exact n1
   ·rw[hL]
    intro x hx
    rcases List.mem_append.1 hx with q |q
    ·exact h.lf x q
    ·simp at q;subst q;exact n2
   ·rw[hL,hD]
    intro p hp
    have:=h.dv p hp
    rw[List.length_append]
    simp
    omega
 ·unfold zbn zeh
  by_cases hm:zb3 n∈S.L.map zb3
  ·rw[if_pos hm];exact⟨⟨[],by simp⟩⟩
  ·rw[if_neg hm];exact⟨⟨[n],rfl⟩⟩
 ·unfold zbn zeh
  by_cases hm:zb3 n∈S.L.map zb3
  ·simp only[if_pos hm];omega
  ·simp only[if_neg hm]
   unfold inn
   rw[List.filter_append,List.length_append]
   by_cases hk:n.kids=[]
   ·rw[if_pos hk]
    simp[zkk,hk]
   ·rw[if_neg hk]
    have:=List.length_filter_le zkk [n]
    simp at this
    omega
theorem GI.full {S:GS}(h:GI S)(b:Bool):GI { S with full:=b }:=⟨h.nd,h.wk,h.ni,h.lf,h.dv⟩
theorem zxn {t:ByteArray}{v:Int}:∀{D:List (ByteArray×Int)},ze6 t D=some v→(∃p∈D,p.2=v)
 |[],h=>by cases h
 |(k,w)::l,h=>by
  rw[ze6]at h
  by_cases e:t=k
  ·rw[if_pos e]at h
   cases h
   exact⟨(k,v),List.mem_cons_self,rfl⟩
  ·rw[if_neg e]at h
   obtain⟨p,hp,e2⟩:=zxn h
   exact⟨p,List.mem_cons_of_mem _ hp,e2⟩
theorem zy3 {t:ByteArray}{v:Int}:∀{D:List (ByteArray×Int)}{p:ByteArray×Int},p∈zej t v D→p∈D∨p.2=v
 |[],p,h=>by
  simp[zej]at h
  exact .inr (by rw[h])
 |(k,w)::l,p,h=>by
  rw[zej]at h
  by_cases e:t=k
  ·rw[if_pos e]at h
   rcases List.mem_cons.1 h with q |q
   ·exact .inr (by rw[q])
   ·exact .inl (List.mem_cons_of_mem _ q)
  ·rw[if_neg e]at h
   rcases List.mem_cons.1 h with q |q
   ·exact .inl (by rw[q];exact List.mem_cons_self)
   ·rcases zy3 q with q |q
    ·exact .inl (List.mem_cons_of_mem _ q)
    ·exact .inr q
theorem zug (P Q:Int→Prop):∀(ss ys:List Int) (x:Int)(c k:List Int),(∀a∈c,P a)→(∀a∈ss,P a)→(∀a∈k,Q a)→(∀a∈ys,Q a)→
  (∀a∈(zax x c k ss ys).2.1,P a)∧(∀a∈(zax x c k ss ys).2.2,Q a)∧k.length≤(zax x c k ss ys).2.2.length∧(zax x c k ss ys).2.2.length≤k.length+ys.length∧(zax x c k ss ys).2.1.length≤c.length+ys.length
 |[],ys,x,c,k,h1,_,h3,_=>⟨h1,h3,by simp[zax],by simp[zax],by simp[zax]⟩
 |s::ss,[],x,c,k,h1,_,h3,_=>⟨h1,h3,by simp[zax],by simp[zax],by simp[zax]⟩
 |s::ss,y::ys,x,c,k,h1,h2,h3,h4=>by
  by_cases e:y=x
  ·rw[zv6 e]
   obtain⟨a1,a2,a3,a4,a5⟩:=zug P Q ss ys x c k h1 (fun a ha=>h2 a (List.mem_cons_of_mem _ ha)) h3 (fun a ha=>h4 a (List.mem_cons_of_mem _ ha))
   exact⟨a1,a2,a3,by simp;omega,by simp;omega⟩
  ·rw[zwq e]
   obtain⟨a1,a2,a3,a4,a5⟩:=zug P Q ss ys y (c++[s]) (k++[y]) (fun a ha=>by
     rcases List.mem_append.1 ha with q |q
     ·exact h1 a q
     ·simp at q;subst q;exact h2 a List.mem_cons_self) (fun a ha=>h2 a (List.mem_cons_of_mem _ ha)) (fun a ha=>by
     rcases List.mem_append.1 ha with q |q
     ·exact h3 a q
     ·simp at q;subst q;exact h4 a List.mem_cons_self) (fun a ha=>h4 a (List.mem_cons_of_mem _ ha))
   simp only[List.length_append,List.length_cons,List.length_nil]at a3 a4 a5
   exact⟨a1,a2,by omega,by simp;omega,by simp;omega⟩
theorem zBs {S:GS}{i:Nat}{st ks:List Int}(h:GI S)(hi:i≤1000)(hst:∀a∈st,I64 a)(hks:∀a∈ks,0≤a∧a<(S.L.length:Int))(hne:ks≠[])(hlen:ks.length≤90000)(hL:S.L.length≤1000000):
  GI (zdg i st ks S).2∧(0≤(zdg i st ks S).1∧(zdg i st ks S).1<((zdg i st ks S).2.L.length:Int))∧GLe S (zdg i st ks S).2∧inn (zdg i st ks S).2.L≤inn S.L+1:=by
 have hh:zd2 ks∈ks:=by
  cases ks with
  |nil=>exact absurd rfl hne
  |cons x xs=>exact List.mem_cons_self
 have hr:=hks _ hh
 have hI:∀a:Int,0≤a∧a<(S.L.length:Int)→I64 a:=fun a ha=>⟨by omega,by omega⟩
 obtain⟨a1,a2,a3,a4,a5⟩:=zug I64 (fun a=>0≤a∧a<(S.L.length:Int)) st ks (zd2 ks) [] [zd2 ks] (by simp) hst (by simpa using hr) hks
 simp only[List.length_cons,List.length_nil]at a3 a4 a5
 unfold zdg
 simp only
 by_cases e:(zax (zd2 ks) [] [zd2 ks] st ks).2.2.length=1
 ·rw[if_pos e]
  exact⟨h,hr,.refl S,Nat.le_succ _⟩
 ·rw[if_neg e]
  have hi64:I64 (i:Int):=⟨by omega,by omega⟩
  have hnk:(zax (zd2 ks) [] [zd2 ks] st ks).2.2≠[]:=fun q=>by rw[q]at a3;simp at a3
  obtain⟨b1,b2,b3,b4⟩:=zmv (n:=⟨(i:Int),(zax (zd2 ks) [] [zd2 ks] st ks).2.1,(zax (zd2 ks) [] [zd2 ks] st ks).2.2,false⟩) h ⟨⟨hi64,a1,fun a ha=>hI a (a2 a ha),Nat.le_trans a5 (by omega),Nat.le_trans a4 (by omega)⟩,fun q=>absurd q hnk,a2⟩
  refine⟨b1,b2,b3,?_⟩
  rw[if_neg hnk]at b4
  exact b4
theorem zzo {g:Int→GS→Int×GS}{B:Nat}(hg:∀v S,GI S→inn S.L≤B→GI (g v S).2∧(0≤(g v S).1∧(g v S).1<((g v S).2.L.length:Int))∧GLe S (g v S).2∧inn (g v S).2.L≤B):∀(l:List Int)(S:GS),GI S→inn S.L≤B→
  GI (zc1 g l S).2∧(∀a∈(zc1 g l S).1,0≤a∧a<((zc1 g l S).2.L.length:Int))∧GLe S (zc1 g l S).2∧inn (zc1 g l S).2.L≤B∧(zc1 g l S).1.length=l.length
 |[],S,h,hb=>⟨h,by simp[zc1],.refl S,hb,rfl⟩
 |v::l,S,h,hb=>by
  obtain⟨a1,a2,a3,a4⟩:=hg v S h hb
  obtain⟨b1,b2,b3,b4,b5⟩:=zzo hg l (g v S).2 a1 a4
  have:=b3.len
  refine⟨b1,fun a ha=>?_,a3.trans b3,b4,by simp[zc1,b5]⟩
  rcases List.mem_cons.1 ha with q |q
  ·subst q
   simp only[zc1]
   omega
  ·exact b2 a q
theorem zp7 (d:List Fc)(hd:d.length≤1000)(hv:∀x∈d,x.lo≤x.hi∧I64 x.lo∧I64 x.hi):∀(k:Nat)(f:Fm)(S:GS),k≤d.length→FmG f→f.size≤1000→GI S→inn S.L≤20000+d.length+1→
  GI (zb5 d k f S).2∧(0≤(zb5 d k f S).1∧(zb5 d k f S).1<((zb5 d k f S).2.L.length:Int))∧GLe S (zb5 d k f S).2∧inn (zb5 d k f S).2.L≤max (inn S.L) (20000+k)
 |0,f,S,_,_,_,h,_=>by
  rw[zb5]
  by_cases e:f.op=1∨f.op=2
  ·rw[if_pos e]
   obtain⟨a1,a2,a3,a4⟩:=zmv h (zmu (decide (f.op=1)) S.L)
   exact⟨a1,a2,a3,by rw[if_pos (by rfl)]at a4;omega⟩
  ·rw[if_neg e]
   obtain⟨a1,a2,a3,a4⟩:=zmv (h.full (zdy S)) (zmu false S.L)
   exact⟨a1,a2,⟨a3.pre⟩,by rw[if_pos (by rfl)]at a4;simp only at a4;omega⟩
 |k+1,f,S,hk,hf,hfs,h,hb=>by
  rw[zb5]
  by_cases e:f.op=1∨f.op=2
  ·rw[if_pos e]
   obtain⟨a1,a2,a3,a4⟩:=zmv h (zmu (decide (f.op=1)) S.L)
   exact⟨a1,a2,a3,by rw[if_pos (by rfl)]at a4;omega⟩
  ·rw[if_neg e]
   by_cases e2:zdy S=true
   ·rw[if_pos e2]
    obtain⟨a1,a2,a3,a4⟩:=zmv (h.full true) (zmu false S.L)
    exact⟨a1,a2,⟨a3.pre⟩,by rw[if_pos (by rfl)]at a4;simp only at a4;omega⟩
   ·rw[if_neg e2]
    have hLs:S.L.length≤20000:=by
     unfold zdy at e2
     simp at e2
     exact e2.2
    have hin:inn S.L≤20000:=Nat.le_trans (List.length_filter_le _ _) hLs
    cases hg:ze6 (zla (d.length-(k+1)) f) S.D with
    |some v=>
     obtain⟨p,hp,e3⟩:=zxn hg
     have:=h.dv p hp
     simp only
     exact⟨h.full false,by rw[← e3];exact this,⟨⟨[],by simp⟩⟩,by omega⟩
    |none=>
     simp only
     have hix:d.length-(k+1)<d.length:=by omega
     obtain⟨x,hx⟩:∃x,x=d.getD (d.length-(k+1)) ⟨.empty,0,0,0⟩:=⟨_,rfl⟩
     have hxm:x∈d:=by
      rw[hx,List.getD_eq_getElem?_getD,List.getElem?_eq_getElem hix]
      exact List.getElem_mem hix
     obtain⟨v1,v2,v3⟩:=hv x hxm
     rw[← hx]
     obtain⟨b1,b2,b3,b4,b5⟩:=zzo (g:=fun v S=>zb5 d k (zb6 x.name v f) S) (B:=20000+k) (fun v S hS hSb=>by
      obtain⟨g1,g2⟩:=zmq x.name v hf
      obtain⟨a1,a2,a3,a4⟩:=zp7 d hd hv k (zb6 x.name v f) S (by omega) g1 (by omega) hS (by omega)
      exact⟨a1,a2,a3,by omega⟩) (zcg f x) { S with full:=false } (h.full false) (by simp only;omega)
     have hl:=b1.len
     have hsl:=zwy f x
     have hne:=zCx f x v1
     have hin2:=zC0 f x
     obtain⟨c1,c2,c3,c4⟩:=zBs (i:=d.length-(k+1)) (st:=zcg f x) b1 (by omega) (fun a ha=>by
      have:=hin2 a ha
      obtain⟨p1,p2⟩:=v2
      obtain⟨p3,p4⟩:=v3
      exact⟨by omega,by omega⟩) b2 (fun q=>by rw[q]at b5;simp at b5;exact hne (List.eq_nil_of_length_eq_zero b5.symm)) (by omega) (by omega)
     have hc3:=c3.len
     refine⟨⟨c1.nd,c1.wk,c1.ni,c1.lf,?_⟩,c2,?_,?_⟩
     ·intro p hp
      rcases zy3 hp with q |q
      ·exact c1.dv p q
      ·rw[q];exact c2
     ·obtain⟨t,ht⟩:=(b3.trans c3).pre
      exact⟨⟨t,ht⟩⟩
     ·omega
end
end Go.Ev
namespace Go.Ev
open Go.Proofs Go.RowKit
noncomputable section
attribute [-go_sem] zaf zac zay zbj
theorem zEj:cx.ft.get 138=some Tryz.f138:=za9 (by decide) (by kernel_rfl)
@[go_sem] theorem zXi (a b:ByteArray)(h:Tr ABlk) (nx:Nat)(hs:a.size+b.size≤9223372036854775807):zbj .add a b h nx=.val (.bs (a++b)) h nx:=by
 have:Nat.ble (Nat.add a.size b.size) 9223372036854775807=true:=Nat.ble_eq_true_of_le hs
 simp only[zbj,this]
@[go_sem] theorem ycn (a b:ByteArray)(h:Tr ABlk) (nx:Nat):zbj .eql a b h nx=.val (.bool (decide (a=b))) h nx:=rfl
@[go_sem] theorem ydc (a b:ByteArray)(h:Tr ABlk) (nx:Nat):zbj .neq a b h nx=.val (.bool (!(decide (a=b)))) h nx:=rfl
def dmE:List (ByteArray×Int)→Nat→List (AV×AV×Nat)
 |[],_=>[]
 |(t,v)::l,n=>(.bs t,.int .i64 v,n)::dmE l (n+1)
def zjb (t:ByteArray):List (ByteArray×Int)→Nat→Option (Nat×AV)
 |[],_=>none
 |(k,v)::l,i=>if t=k then some (i,.int .i64 v) else zjb t l (i+1)
theorem zAo (t:ByteArray):∀(l:List (ByteArray×Int)) (n:Nat),ze8 .string (.bs t) (dmE l n) n=some (zjb t l n)
 |[],n=>rfl
 |(k,v)::l,n=>by
  rw[dmE,zmx,zjb]
  by_cases e:t=k
  ·simp[zdz,e]
  ·simp[zdz,e,fN_eq,zAo t l (n+1)]
@[go_sem] theorem zWf (t:ByteArray)(l:List (ByteArray×Int)):ze8 .string (.bs t) (dmE l 0) 0=some (zjb t l 0):=zAo t l 0
theorem zr7 {t:ByteArray}:∀{l:List (ByteArray×Int)}(n:Nat),ze6 t l=none→zjb t l n=none
 |[],_,_=>rfl
 |(k,v)::l,n,h=>by
  rw[ze6]at h
  rw[zjb]
  by_cases e:t=k
  ·rw[if_pos e]at h;cases h
  ·rw[if_neg e]at h ⊢
   exact zr7 (n+1) h
theorem zpq {t:ByteArray}{v:Int}:∀{l:List (ByteArray×Int)}(n:Nat),ze6 t l=some v→∃j,zjb t l n=some (n+j,.int .i64 v)∧j<l.length∧∀(w:Int) (m:Nat),(dmE l m).modify j (fun e=>match e with |(_,_,n)=>(.bs t,.int .i64 w,n))=dmE (zej t w l) m
 |[],_,h=>by cases h
 |(k,u)::l,n,h=>by
  rw[ze6]at h
  rw[zjb]
  by_cases e:t=k
  ·rw[if_pos e]at h ⊢
   cases h
   refine⟨0,rfl,by simp,fun w m=>?_⟩
   rw[zej,if_pos e,dmE,dmE,e]
   rfl
  ·rw[if_neg e]at h ⊢
   obtain⟨j,h1,h2,h3⟩:=zpq (n+1) h
   refine⟨j+1,by rw[h1,show n+1+j=n+(j+1) by omega],by simp;omega,fun w m=>?_⟩
   rw[zej,if_neg e,dmE,dmE,← h3 w (m+1)]
   rfl
theorem ztq {t:ByteArray}{w:Int}:∀{l:List (ByteArray×Int)},ze6 t l=none→zej t w l=l++[(t,w)]
 |[],_=>rfl
 |(k,v)::l,h=>by
  rw[ze6]at h
  rw[zej]
  by_cases e:t=k
  ·rw[if_pos e]at h;cases h
  ·rw[if_neg e]at h ⊢
   rw[ztq h]
   rfl
theorem zvl (t:ByteArray) (w:Int):∀(l:List (ByteArray×Int)) (n:Nat),dmE (l++[(t,w)]) n=dmE l n++[(.bs t,.int .i64 w,n+l.length)]
 |[],n=>rfl
 |(k,v)::l,n=>by
  rw[List.cons_append,dmE,dmE,zvl t w l (n+1)]
  simp
  omega
theorem ztp {t:ByteArray}{w:Int}:∀{l:List (ByteArray×Int)}{v:Int},ze6 t l=some v→(zej t w l).length=l.length
 |[],_,h=>by cases h
 |(k,u)::l,v,h=>by
  rw[ze6]at h
  rw[zej]
  by_cases e:t=k
  ·rw[if_pos e];rfl
  ·rw[if_neg e]at h ⊢
   simp[ztp h]
structure GSt (O:Nat→Prop) (e b:Nat)(u:Bool)(d:List Fc)(S:GS)(h:Tr ABlk) (nx:Nat):Prop where
 le:e<b
 lb:b+6≤nx
 hO:∀k,O k→k=b∨b+6≤k
 ge:h.get e=some (bx 35 [.fz 4 u (za8 d)] false 0)
 gm:h.get (b+1)=some (bx 182 [.ptr b 0] false 0)
 gd:h.get (b+2)=some (.map (dmE S.D 0) S.D.length)
 gv:h.get (b+3)=some (bx 183 [.map (b+2)] false 0)
 gf:h.get (b+4)=some (bx 4 [.bool S.full] false 0)
 gg:h.get (b+5)=some (bx 169 [.func 138 [] [.ptr (b+1) 0,.ptr (b+4) 0,.ptr e 0,.ptr (b+3) 0,.ptr (b+5) 0]] false 0)
 mkS:zcx O h nx b S.L
def KG (O:Nat→Prop) (b:Nat)(h:Tr ABlk) (nx:Nat)(O':Nat→Prop)(g:Tr ABlk) (ny:Nat):Prop:=nx≤ny∧(∀k,k<nx→¬O k→k≠b+2→k≠b+4→g.get k=h.get k)∧∀k,O' k→O k∨nx≤k
theorem GSt.ext {O:Nat→Prop}{e b:Nat}{u:Bool}{d:List Fc}{S:GS}{h g:Tr ABlk}{nx ny:Nat}(G:GSt O e b u d S h nx)(x:Ext nx h g)(hn:nx≤ny):GSt O e b u d S g ny:=by
 obtain⟨le,lb,hO,ge,gm,gd,gv,gf,gg,mk⟩:=G
 refine⟨le,by omega,hO,?_,?_,?_,?_,?_,?_,mk.ext x hn⟩
 all_goals (rw[x _ (by omega)];assumption)
theorem GSt.node {O O':Nat→Prop}{e b:Nat}{u:Bool}{d:List Fc}{S:GS}{L':List Nd}{h g:Tr ABlk}{nx ny:Nat}(G:GSt O e b u d S h nx)(K:zbp O h nx O' g ny)(m:zcx O' g ny b L'):GSt O' e b u d { S with L:=L' } g ny:=by
 obtain⟨le,lb,hO,ge,gm,gd,gv,gf,gg,mk⟩:=G
 obtain⟨k1,k2,k3⟩:=K
 have hn:∀k,O k→k=b∨b+6≤k:=hO
 refine⟨le,by omega,fun k hk=>?_,?_,?_,?_,?_,?_,?_,m⟩
 ·rcases k3 k hk with q |q
  ·exact hO k q
  ·exact .inr (by omega)
 all_goals (rw[k2 _ (by omega) (fun q=>by have:=hn _ q;omega)];assumption)
theorem GSt.setF {O:Nat→Prop}{e b:Nat}{u:Bool}{d:List Fc}{S:GS}{h:Tr ABlk}{nx:Nat}(G:GSt O e b u d S h nx)(f:Bool):GSt O e b u d { S with full:=f } (h.put (b+4) (some (bx 4 [.bool f] false 0))) nx:=by
 obtain⟨le,lb,hO,ge,gm,gd,gv,gf,gg,mk⟩:=G
 refine⟨le,lb,hO,?_,?_,?_,?_,by simp[go_sem],?_,mk.mono (fun _ q=>q) (fun k hk q=>by have:=hO k q;rw[Tr.get_put,if_neg (by omega)]) (Nat.le_refl _)⟩
 all_goals (rw[Tr.get_put,if_neg (by omega)];assumption)
theorem GSt.setD {O:Nat→Prop}{e b:Nat}{u:Bool}{d:List Fc}{S:GS}{h:Tr ABlk}{nx:Nat}(G:GSt O e b u d S h nx)(D':List (ByteArray×Int)):GSt O e b u d { S with D:=D' } (h.put (b+2) (some (.map (dmE D' 0) D'.length))) nx:=by
 obtain⟨le,lb,hO,ge,gm,gd,gv,gf,gg,mk⟩:=G
 refine⟨le,lb,hO,?_,?_,by simp[go_sem],?_,?_,?_,mk.mono (fun _ q=>q) (fun k hk q=>by have:=hO k q;rw[Tr.get_put,if_neg (by omega)]) (Nat.le_refl _)⟩
 all_goals (rw[Tr.get_put,if_neg (by omega)];assumption)
theorem zvb (b:Nat)(x:Bool):WkL [.ptr b 0,.agg [.int .i64 0,.sl0,.sl0,.bool x]] [.ptr b 0,.agg (zb9 x).cs]:=
 .cons _ _ _ _ (.same _) (.cons _ _ _ _ (.agg _ _ (.cons _ _ _ _ (.same _) (.cons _ _ _ _ (.sl0 1 false) (.cons _ _ _ _ (.sl0 1 false) (.cons _ _ _ _ (.same _) .nil))))) .nil)
theorem KG.trans {O O1 O2:Nat→Prop}{b:Nat}{h g f:Tr ABlk}{nx n1 n2:Nat}(x:KG O b h nx O1 g n1)(y:KG O1 b g n1 O2 f n2):KG O b h nx O2 f n2:=by
 obtain⟨a1,a2,a3⟩:=x
 obtain⟨b1,b2,b3⟩:=y
 refine⟨by omega,fun k k1 k2 k3 k4=>?_,fun k hk=>?_⟩
 ·rw[b2 k (by omega) (fun q=>by rcases a3 k q with r |r;exact k2 r;omega) k3 k4,a2 k k1 k2 k3 k4]
 ·rcases b3 k hk with q |q
  ·exact a3 k q
  ·exact .inr (by omega)
theorem KG.ofExt {O:Nat→Prop}{b:Nat}{h g:Tr ABlk}{nx ny:Nat}(x:Ext nx h g)(hn:nx≤ny):KG O b h nx O g ny:=⟨hn,fun k hk _ _ _=>x k hk,fun _ h=>.inl h⟩
theorem KG.ofKept {O O':Nat→Prop}{b:Nat}{h g:Tr ABlk}{nx ny:Nat}(K:zbp O h nx O' g ny):KG O b h nx O' g ny:=⟨K.1,fun k hk ho _ _=>K.2.1 k hk ho,K.2.2⟩
theorem KG.setF {O:Nat→Prop}{b:Nat}{h:Tr ABlk}{nx:Nat}(B:Option ABlk):KG O b h nx O (h.put (b+4) B) nx:=⟨Nat.le_refl _,fun k _ _ _ h4=>by rw[Tr.get_put,if_neg h4],fun _ h=>.inl h⟩
theorem KG.setD {O:Nat→Prop}{b:Nat}{h:Tr ABlk}{nx:Nat}(B:Option ABlk):KG O b h nx O (h.put (b+2) B) nx:=⟨Nat.le_refl _,fun k _ _ h4 _=>by rw[Tr.get_put,if_neg h4],fun _ h=>.inl h⟩
theorem zvt (b:Bool):NdI (zb9 b):=(zmu b []).1
theorem GSt.all {O:Nat→Prop}{e b:Nat}{u:Bool}{d:List Fc}{S:GS}{h:Tr ABlk}{nx:Nat}(G:GSt O e b u d S h nx):∃a c,h.get b=some (bx 187 [a,c] false 0)∧((S.L.length=0∧a=.sl0)∨∃q,a=.sl q 0 S.L.length 0 true):=by
 obtain⟨_,a,c,h1,h2⟩:=G.mkS
 refine⟨a,c,h1,?_⟩
 rcases h2.2.2.2 with⟨q1,q2,q3⟩ |⟨q1,m,q,_,_,_,_,_,_,_,_,_,q2,_⟩
 ·exact .inl ⟨by rw[q1];rfl,q2⟩
 ·exact .inr ⟨q,q2⟩
theorem zcx.low {O:Nat→Prop}{h:Tr ABlk}{nx p:Nat}{L:List Nd}(m:zcx O h nx p L):zcx (fun k=>O k∧k<nx) h nx p L:=by
 obtain⟨h1,a,c,h2,u1,u2,u3,u4⟩:=m
 refine⟨h1,a,c,h2,u1,⟨u2,u3⟩,u3,?_⟩
 rcases u4 with u4 |⟨u4,m,q,o1,o2,m1,q1,rest⟩
 ·exact .inl u4
 ·exact .inr ⟨u4,m,q,⟨o1,m1⟩,⟨o2,q1⟩,m1,q1,rest⟩
theorem GSt.low {O:Nat→Prop}{e b:Nat}{u:Bool}{d:List Fc}{S:GS}{h:Tr ABlk}{nx:Nat}(G:GSt O e b u d S h nx):GSt (fun k=>O k∧k<nx) e b u d S h nx:=by
 obtain⟨le,lb,hO,ge,gm,gd,gv,gf,gg,mk⟩:=G
 exact⟨le,lb,fun k hk=>hO k hk.1,ge,gm,gd,gv,gf,gg,mk.low⟩
theorem KG.low {O O':Nat→Prop}{b:Nat}{h g:Tr ABlk}{nx ny:Nat}(K:KG O b h nx O' g ny):KG O b h nx (fun k=>O' k∧k<ny) g ny:=⟨K.1,K.2.1,fun k hk=>K.2.2 k hk.1⟩
theorem KG.up {O O':Nat→Prop}{b:Nat}{h g:Tr ABlk}{nx ny:Nat}(K:KG (fun k=>O k∧k<nx) b h nx O' g ny):KG O b h nx O' g ny:=⟨K.1,fun k h1 h2=>K.2.1 k h1 (fun q=>h2 q.1),fun k hk=>by rcases K.2.2 k hk with q |q;exact .inl q.1;exact .inr q⟩
def zi1 (d:List Fc)(u:Bool) (e b k:Nat)(f:Fm)(S:GS)(O:Nat→Prop)(h:Tr ABlk) (nx:Nat)(R:AV→Tr ABlk→Nat→Prop):Prop:=
 ∀O' g ny,KG O b h nx O' g ny→GSt O' e b u d (zb5 d k f S).2 g ny→R (.int .i64 (zb5 d k f S).1) g ny
theorem zAh {d:List Fc}{u:Bool}{e b k:Nat}{f:Fm}{S:GS}{O:Nat→Prop}{h:Tr ABlk}{nx:Nat}{R:AV→Tr ABlk→Nat→Prop}(hL:S.L.length<1000000)(hG:GSt O e b u d S h nx)(hR:zi1 d u e b k f S O h nx R)(x:Bool)(hx:zb5 d k f S=zbn (zb9 x) S)(g:Tr ABlk)(hE:Ext nx h g):
  za7 Tryz.prog cx 139 [.ptr b 0,.agg [.int .i64 0,.sl0,.sl0,.bool x]] g (nx+1) R:=by
 unfold zi1 at hR
 refine za7.wk (zvb b x) ?_
 refine znj O _ _ b S.L (zb9 x) ((hG.ext hE (by omega)).mkS) (zvt x) (by omega) _ fun O' g' ny K M=>?_
 rw[hx]at hR
 exact hR O' g' ny ((KG.ofExt hE (by omega)).trans (KG.ofKept K)) ((hG.ext hE (by omega)).node K M)
theorem zt9 {d:List Fc}{u:Bool}{e b k:Nat}{f:Fm}{S:GS}{O:Nat→Prop}{h:Tr ABlk}{nx:Nat}{R:AV→Tr ABlk→Nat→Prop}(hL:S.L.length<1000000)(hG:GSt O e b u d S h nx)(hR:zi1 d u e b k f S O h nx R)(x:Bool)(hx:zb5 d k f S=zbn (zb9 false) { S with full:=x })(g:Tr ABlk)(hE:Ext nx h g):
  za7 Tryz.prog cx 139 [.ptr b 0,.agg [.int .i64 0,.sl0,.sl0,.bool false]] (g.put (b+4) (some (bx 4 [.bool x] false 0))) (nx+1) R:=by
 unfold zi1 at hR
 have hG2:=(hG.ext hE (Nat.le_succ nx)).setF x
 refine za7.wk (zvb b false) ?_
 refine znj O _ _ b S.L (zb9 false) hG2.mkS (zvt false) (by omega) _ fun O' g' ny K M=>?_
 rw[hx]at hR
 exact hR O' g' ny (((KG.ofExt hE (Nat.le_succ nx)).trans (KG.setF _)).trans (KG.ofKept K)) (hG2.node K M)
set_option maxHeartbeats 4000000 in
theorem zv2 (d:List Fc)(u:Bool) (e b k i:Nat)(f:Fm)(S:GS)(O:Nat→Prop)(h:Tr ABlk) (nx:Nat)(R:AV→Tr ABlk→Nat→Prop)(hL:S.L.length<1000000)(hG:GSt O e b u d S h nx)(hR:zi1 d u e b k f S O h nx R)
  (h1:f.op=1∨f.op=2→zb5 d k f S=zbn (zb9 (decide (f.op=1))) S) (h2:¬(f.op=1∨f.op=2)→zb5 d k f S=zbn (zb9 false) { S with full:=zdy S }) (h3:(f.op=1∨f.op=2)∨zdy S=true∨i=d.length):
  za7 Tryz.prog cx 138 [.agg f.cs,.int .i64 (i:Int),.ptr (b+1) 0,.ptr (b+4) 0,.ptr e 0,.ptr (b+3) 0,.ptr (b+5) 0] h nx R:=by
 obtain⟨o,nn,cm,m,kids⟩:=f
 have hlb:=hG.lb
 have hle:=hG.le
 have hgm:=hG.gm
 have hge:=hG.ge
 have hgf:=hG.gf
 obtain⟨ma,mc,gb,hA⟩:=hG.all
 have b1:¬b+1=nx:=by omega
 have b2:¬b+4=nx:=by omega
 have b3:¬e=nx:=by omega
 have b4:¬b=nx:=by omega
 have b5:¬e=b+4:=by omega
 have hEx:∀x,Ext nx h (h.put nx x):=fun x=>by simp(disch:=omega)only[za6];exact Ext.refl _ _
 refine zaa (sz:=107) (rs:=[.tmp 9]) za4 zEj rfl rfl rfl (by simp) ?_
 by_cases o1:o=1
 ·subst o1
  simp-implicitDefEqProofs[go_sem,Fm.cs,hgm,b1]
  refine(zAh hL hG hR true (by rw[h1 (.inl rfl)];rfl) _ (hEx _)).mono fun v g ny hh=>?_
  simp-implicitDefEqProofs[go_sem,za0]
  exact hh
 by_cases o2:o=2
 ·subst o2
  simp-implicitDefEqProofs[go_sem,Fm.cs,hgm,b1]
  refine(zAh hL hG hR false (by rw[h1 (.inr rfl)];rfl) _ (hEx _)).mono fun v g ny hh=>?_
  simp-implicitDefEqProofs[go_sem,za0]
  exact hh
 have hno:¬((Fm.mk o nn cm m kids).op=1∨(Fm.mk o nn cm m kids).op=2):=by show ¬(o=1∨o=2);omega
 have hgr:∀x,zdy S=x→zb5 d k (.mk o nn cm m kids) S=zbn (zb9 false) { S with full:=x }:=fun x hx=>by
  rw[h2 hno,hx]
 cases hF:S.full with
 |true=>
  rw[hF]at hgf
  have hfin:=zt9 hL hG hR true (hgr true (by unfold zdy;rw[hF];rfl)) _ (hEx (some (bx 24 [.int .i64 o,.bs nn,.int .i64 cm,.int .i64 m,.fz 5 false (zat kids)] false 0)))
  simp-implicitDefEqProofs[go_sem,Fm.cs,hgm,hgf,b1,b2,o1,o2]
  refine hfin.mono fun v g ny hh=>?_
  simp-implicitDefEqProofs[go_sem,za0]
  exact hh
 |false=>
  rw[hF]at hgf
  have hlD:(za8 d).length=d.length:=by simp[za8]
  by_cases hbig:20000<S.L.length
  ·have hfin:=zt9 hL hG hR true (hgr true (by unfold zdy;rw[hF];simpa using hbig)) _ (hEx (some (bx 24 [.int .i64 o,.bs nn,.int .i64 cm,.int .i64 m,.fz 5 false (zat kids)] false 0)))
   have hbigI:(20000:Int)<(S.L.length:Int):=by omega
   rcases hA with⟨h0,_⟩ |⟨q,ha⟩
   ·omega
   ·subst ha
    simp-implicitDefEqProofs[go_sem,Fm.cs,hgm,hgf,gb,b1,b2,b3,b4,b5,o1,o2,hbig,hbigI]
    refine hfin.mono fun v g ny hh=>?_
    simp-implicitDefEqProofs[go_sem,za0]
    exact hh
  ·have hfin:=zt9 hL hG hR false (hgr false (by unfold zdy;rw[hF];simpa using hbig)) _ (hEx (some (bx 24 [.int .i64 o,.bs nn,.int .i64 cm,.int .i64 m,.fz 5 false (zat kids)] false 0)))
   have hbigI:¬(20000:Int)<(S.L.length:Int):=by omega
   have hid:i=d.length:=by
    rcases h3 with q |q |q
    ·exact absurd q hno
    ·unfold zdy at q
     rw[hF]at q
     simp at q
     omega
    ·exact q
   subst hid
   rcases hA with⟨h0,ha⟩ |⟨q,ha⟩
   ·subst ha
    simp-implicitDefEqProofs[go_sem,Fm.cs,hgm,hgf,hge,gb,b1,b2,b3,b4,b5,o1,o2,h0,hlD]
    refine hfin.mono fun v g ny hh=>?_
    simp-implicitDefEqProofs[go_sem,za0]
    exact hh
   ·subst ha
    simp-implicitDefEqProofs[go_sem,Fm.cs,hgm,hgf,hge,gb,b1,b2,b3,b4,b5,o1,o2,hbig,hbigI,hlD]
    refine hfin.mono fun v g ny hh=>?_
    simp-implicitDefEqProofs[go_sem,za0]
    exact hh
end
end Go.Ev
