/- Texts T71 T72. -/
import Derived.Test.YtkdnmldmffkkoaaGreatDoorP24
set_option linter.unusedSimpArgs false
set_option linter.unusedVariables false
set_option maxRecDepth 100000
namespace Go.Ev
open Go.Proofs Go.RowKit
noncomputable section
structure HS where
 L:List Nd
 M:List ((Int×Int)×Int)
def HS.gs (H:HS):GS:=⟨H.L,[],false⟩
def zec (t:Int×Int):List ((Int×Int)×Int)→Option Int
 |[]=>none
 |(k,v)::l=>if t=k then some v else zec t l
def zew (t:Int×Int) (v:Int):List ((Int×Int)×Int)→List ((Int×Int)×Int)
 |[]=>[(t,v)]
 |(k,w)::l=>if t=k then (k,v)::l else (k,w)::zew t v l
def zd7 {T:Type}(g:Int→T→Int×T):List Int→T→List Int×T
 |[],S=>([],S)
 |v::l,S=>((g v S).1::(zd7 g l (g v S).2).1,(zd7 g l (g v S).2).2)
theorem zL8 {T:Type}(g:Int→T→Int×T) (v:Int)(l:List Int)(S:T):zd7 g (v::l) S=((g v S).1::(zd7 g l (g v S).2).1,(zd7 g l (g v S).2).2):=rfl
def zfl (p q:Nd)(d:List Fc) (i:Int) (lo:Int):List Int:=zby (zbc (([lo]++(if zbs p d=i then p.cuts else []))++(if zbs q d=i then q.cuts else [])))
def zi8 (n:Nd)(H:HS):Int×HS:=((zbn n H.gs).1,{ H with L:=(zbn n H.gs).2.L })
def zfs (i:Nat)(st ks:List Int)(H:HS):Int×HS:=((zdg i st ks H.gs).1,{ H with L:=(zdg i st ks H.gs).2.L })
def zps (x y:Int):Int:=min x y
def zel (p q:Nd)(d:List Fc):Int:=zps (zbs p d) (zbs q d)
def zcu (a b:List Nd)(d:List Fc):Nat→Nat→Nat→HS→Int×HS
 |0,_,_,H=>(0,H)
 |k+1,x,y,H=>match zec ((x:Int),(y:Int)) H.M with
  |some v=>(v,H)
  |none=>
   let p:=a.getD x (zb9 false)
   let q:=b.getD y (zb9 false)
   let i:=zel p q d
   if i=(d.length:Int)∨20000<H.L.length then zi8 (zb9 (p.leaf && q.leaf)) H
   else
    let st:=zfl p q d i (d.getD i.toNat ⟨.empty,0,0,0⟩).lo
    let r:=zd7 (fun v H=>zcu a b d k (zch p x i v).toNat (zch q y i v).toNat H) st H
    let o:=zfs i.toNat st r.1 r.2
    (o.1,{ o.2 with M:=zew ((x:Int),(y:Int)) o.1 o.2.M })
structure HI (H:HS):Prop where
 g:GI H.gs
 m:∀p∈H.M,0≤p.2∧p.2<(H.L.length:Int)
def HLe (H H':HS):Prop:=∃t,H'.L=H.L++t
theorem HLe.refl (H:HS):HLe H H:=⟨[],by simp⟩
theorem HLe.trans {A B C:HS}(h:HLe A B)(k:HLe B C):HLe A C:=by
 obtain⟨t,e⟩:=h
 obtain⟨u,e2⟩:=k
 exact⟨t++u,by rw[e2,e,List.append_assoc]⟩
theorem HLe.len {S S':HS}(h:HLe S S'):S.L.length≤S'.L.length:=by
 obtain⟨t,e⟩:=h
 rw[e];simp
theorem zEd {t:Int×Int}{v:Int}:∀{D:List ((Int×Int)×Int)},zec t D=some v→(∃p∈D,p.2=v)
 |[],h=>by cases h
 |(k,w)::l,h=>by
  rw[zec]at h
  by_cases e:t=k
  ·rw[if_pos e]at h
   cases h
   exact⟨(k,v),List.mem_cons_self,rfl⟩
  ·rw[if_neg e]at h
   obtain⟨p,hp,e2⟩:=zEd h
   exact⟨p,List.mem_cons_of_mem _ hp,e2⟩
theorem zDu {t:Int×Int}{v:Int}:∀{D:List ((Int×Int)×Int)}{p:(Int×Int)×Int},p∈zew t v D→p∈D∨p.2=v
 |[],p,h=>by
  simp[zew]at h
  exact .inr (by rw[h])
 |(k,w)::l,p,h=>by
  rw[zew]at h
  by_cases e:t=k
  ·rw[if_pos e]at h
   rcases List.mem_cons.1 h with q |q
   ·exact .inr (by rw[q])
   ·exact .inl (List.mem_cons_of_mem _ q)
  ·rw[if_neg e]at h
   rcases List.mem_cons.1 h with q |q
   ·exact .inl (by rw[q];exact List.mem_cons_self)
   ·rcases zDu q with q |q
    ·exact .inl (List.mem_cons_of_mem _ q)
    ·exact .inr q
theorem HI.up {H:HS}{L':List Nd}(h:HI H)(g:GI ⟨L',[],false⟩)(hl:∃t,L'=H.L++t):HI { H with L:=L' }:=by
 refine⟨g,fun p hp=>?_⟩
 have:=h.m p hp
 obtain⟨t,rfl⟩:=hl
 simp
 omega
theorem zHt {H:HS}{n:Nd}(h:HI H)(hn:ztv n H.L):HI (zi8 n H).2∧(0≤(zi8 n H).1∧(zi8 n H).1<((zi8 n H).2.L.length:Int))∧HLe H (zi8 n H).2∧inn (zi8 n H).2.L≤inn H.L+(if n.kids=[] then 0 else 1):=by
 obtain⟨a1,a2,a3,a4⟩:=zmv (S:=H.gs) (n:=n) h.g hn
 exact⟨h.up ⟨a1.nd,a1.wk,a1.ni,a1.lf,by simp⟩ a3.pre,a2,a3.pre,a4⟩
theorem zT4 {H:HS}{i:Nat}{st ks:List Int}(h:HI H)(hi:i≤1000)(hst:∀a∈st,I64 a)(hks:∀a∈ks,0≤a∧a<(H.L.length:Int))(hne:ks≠[])(hlen:ks.length≤90000)(hL:H.L.length≤1000000):
  HI (zfs i st ks H).2∧(0≤(zfs i st ks H).1∧(zfs i st ks H).1<((zfs i st ks H).2.L.length:Int))∧HLe H (zfs i st ks H).2∧inn (zfs i st ks H).2.L≤inn H.L+1:=by
 obtain⟨a1,a2,a3,a4⟩:=zBs (S:=H.gs) (i:=i) (st:=st) (ks:=ks) h.g hi hst hks hne hlen hL
 exact⟨h.up ⟨a1.nd,a1.wk,a1.ni,a1.lf,by simp⟩ a3.pre,a2,a3.pre,a4⟩
theorem zxx {g:Int→HS→Int×HS}{B:Nat}(hg:∀v S,HI S→inn S.L≤B→HI (g v S).2∧(0≤(g v S).1∧(g v S).1<((g v S).2.L.length:Int))∧HLe S (g v S).2∧inn (g v S).2.L≤B):∀(l:List Int)(S:HS),HI S→inn S.L≤B→
  HI (zd7 g l S).2∧(∀a∈(zd7 g l S).1,0≤a∧a<((zd7 g l S).2.L.length:Int))∧HLe S (zd7 g l S).2∧inn (zd7 g l S).2.L≤B∧(zd7 g l S).1.length=l.length
 |[],S,h,hb=>⟨h,by simp[zd7],.refl S,hb,rfl⟩
 |v::l,S,h,hb=>by
  obtain⟨a1,a2,a3,a4⟩:=hg v S h hb
  obtain⟨b1,b2,b3,b4,b5⟩:=zxx hg l (g v S).2 a1 a4
  have:=b3.len
  refine⟨b1,fun a ha=>?_,a3.trans b3,b4,by simp[zd7,b5]⟩
  rcases List.mem_cons.1 ha with q |q
  ·subst q
   simp only[zd7]
   omega
  ·exact b2 a q
structure DgOk (a:List Nd)(d:List Fc):Prop where
 pr:∀n∈a,zek a n d
 ni:∀n∈a,NdI n
 cu:∀n∈a,n.cuts.length≤40000
 ln:a.length≤1000000
theorem zrl {n:Nd}{d:List Fc}(h:n.kids=[]):zbs n d=(d.length:Int):=by rw[zbs,if_pos h]
theorem zn8 {a:List Nd}{d:List Fc}(h:DgOk a d){n:Nd}(hn:n∈a):0≤zbs n d∧zbs n d≤(d.length:Int)∧(¬n.kids=[]→zbs n d=n.fact∧zbs n d<(d.length:Int)∧n.kids.length=n.cuts.length+1):=by
 by_cases hk:n.kids=[]
 ·rw[zrl hk]
  exact⟨by omega,by omega,fun q=>absurd hk q⟩
 ·rw[zbs,if_neg hk]
  rcases h.pr n hn with⟨e,_⟩ |⟨_,_,p3,_,p5,p6,_⟩
  ·exact absurd e hk
  ·exact⟨p3,by omega,fun _=>⟨rfl,by omega,p5⟩⟩
theorem zrm {a:List Nd}{d:List Fc}(h:DgOk a d){x:Nat}(hx:x<a.length) (i v:Int)(hi:i≤zbs a[x] d)(hid:i<(d.length:Int)):0≤zch a[x] x i v∧∃hs:(zch a[x] x i v).toNat<a.length,i+1≤zbs (a[(zch a[x] x i v).toNat]) d:=by
 have hm:a[x]∈a:=List.getElem_mem hx
 obtain⟨k1,k2,k3⟩:=zn8 h hm
 unfold zch
 by_cases hc:¬(a[x]).kids=[]∧(a[x]).fact=i
 ·rw[if_pos hc]
  obtain⟨q1,q2,q3⟩:=k3 hc.1
  obtain⟨k,e1,e2⟩:=zyy (v:=v) q3
  rw[e1,Int.toNat_natCast,List.getD_eq_getElem?_getD,List.getElem?_eq_getElem e2,Option.getD_some]
  rcases h.pr _ hm with⟨e,_⟩ |⟨_,_,p3,_,p5,p6,_,p8⟩
  ·exact absurd e hc.1
  ·have p9:=p8 k e2
   generalize hz:(a[x]).kids[k]=z at p9
   unfold zgf at p9
   have n1:¬z<0:=fun q=>p9 (.inl q)
   have n2:¬(a.length:Int)≤z:=fun q=>p9 (.inr (.inl q))
   have hzl:z.toNat<a.length:=by omega
   refine⟨by omega,hzl,?_⟩
   by_cases hk:(a[z.toNat]).kids=[]
   ·rw[zrl hk];omega
   ·have n3:¬(a[z.toNat]).fact≤(a[x]).fact:=fun q=>p9 (.inr (.inr (.inr ⟨hzl,hk,q⟩)))
    rw[zbs,if_neg hk]
    omega
 ·rw[if_neg hc]
  refine⟨by omega,by simpa using hx,?_⟩
  simp only[Int.toNat_natCast]
  by_cases hk:(a[x]).kids=[]
  ·rw[zrl hk];omega
  ·obtain⟨q1,q2,q3⟩:=k3 hk
   have:¬(a[x]).fact=i:=fun q=>hc ⟨hk,q⟩
   omega
theorem zCa (p q:Nd)(d:List Fc) (i lo:Int):zfl p q d i lo≠[]:=by
 apply zys
 have h2:lo∈zbc (([lo]++(if zbs p d=i then p.cuts else []))++(if zbs q d=i then q.cuts else [])):=by
  unfold zbc
  exact List.mem_mergeSort.2 (by simp)
 exact List.ne_nil_of_mem h2
theorem zyd {p q:Nd}{d:List Fc}{i lo y:Int}(h:y∈zfl p q d i lo):y=lo∨y∈p.cuts∨y∈q.cuts:=by
 have h1:=zz9 h
 unfold zbc at h1
 have h2:=List.mem_mergeSort.1 h1
 rcases List.mem_append.1 h2 with h3 |h3
 ·rcases List.mem_append.1 h3 with h4 |h4
  ·simp at h4;exact .inl h4
  ·split at h4
   ·exact .inr (.inl h4)
   ·cases h4
 ·split at h3
  ·exact .inr (.inr h3)
  ·cases h3
theorem zEf (p q:Nd)(d:List Fc) (i lo:Int):(zfl p q d i lo).length≤1+p.cuts.length+q.cuts.length:=by
 have h1:=zx3 (zbc (([lo]++(if zbs p d=i then p.cuts else []))++(if zbs q d=i then q.cuts else [])))
 rw[zoc]at h1
 unfold zfl
 refine Nat.le_trans h1 ?_
 simp only[List.length_append,List.length_cons,List.length_nil]
 split <;> split <;> simp <;> omega
theorem zly {a b:List Nd}{d:List Fc}(ha:DgOk a d)(hb:DgOk b d){p q:Nd}(hp:p∈a)(hq:q∈b):0≤zel p q d∧zel p q d≤(d.length:Int)∧zel p q d≤zbs p d∧zel p q d≤zbs q d:=by
 obtain⟨a1,a2,_⟩:=zn8 ha hp
 obtain⟨b1,b2,_⟩:=zn8 hb hq
 unfold zel zps
 omega
theorem zq5 {a:List Nd}{x:Nat}(hx:x<a.length):a.getD x (zb9 false)=a[x]:=by
 rw[List.getD_eq_getElem?_getD,List.getElem?_eq_getElem hx,Option.getD_some]
theorem zq4 (a b:List Nd)(d:List Fc)(hd:d.length≤1000)(hv:∀x∈d,x.lo≤x.hi∧I64 x.lo∧I64 x.hi)(ha:DgOk a d)(hb:DgOk b d):∀(k x y:Nat)(H:HS)(hx:x<a.length)(hy:y<b.length),(d.length:Int)+1≤k+zel a[x] b[y] d→k≤d.length+1→HI H→inn H.L≤20000+d.length+1→
  HI (zcu a b d k x y H).2∧(0≤(zcu a b d k x y H).1∧(zcu a b d k x y H).1<((zcu a b d k x y H).2.L.length:Int))∧HLe H (zcu a b d k x y H).2∧inn (zcu a b d k x y H).2.L≤max (inn H.L) (20000+k)
 |0,x,y,H,hx,hy,hk,_,_,_=>by
  have:=(zly ha hb (List.getElem_mem hx) (List.getElem_mem hy)).2.1
  omega
 |k+1,x,y,H,hx,hy,hk,hk2,h,hin=>by
  rw[zcu]
  cases hg:zec ((x:Int),(y:Int)) H.M with
  |some v=>
   obtain⟨p,hp,e3⟩:=zEd hg
   have:=h.m p hp
   simp only
   exact⟨h,by rw[← e3];exact this,.refl H,by omega⟩
  |none=>
   simp only
   rw[zq5 hx,zq5 hy]
   obtain⟨i1,i2,i3,i4⟩:=zly ha hb (List.getElem_mem hx) (List.getElem_mem hy)
   generalize hi:zel a[x] b[y] d=i at i1 i2 i3 i4 hk
   by_cases hc:i=(d.length:Int)∨20000<H.L.length
   ·rw[if_pos hc]
    obtain⟨a1,a2,a3,a4⟩:=zHt h (zmu (a[x].leaf && b[y].leaf) H.L)
    exact⟨a1,a2,a3,by rw[if_pos (by rfl)]at a4;omega⟩
   ·rw[if_neg hc]
    have hil:i.toNat<d.length:=by omega
    have hLs:H.L.length≤20000:=by omega
    have hin2:inn H.L≤20000:=Nat.le_trans (List.length_filter_le _ _) hLs
    obtain⟨f,hf⟩:∃f,f=d.getD i.toNat ⟨.empty,0,0,0⟩:=⟨_,rfl⟩
    have hfm:f∈d:=by
     rw[hf,List.getD_eq_getElem?_getD,List.getElem?_eq_getElem hil]
     exact List.getElem_mem hil
    obtain⟨v1,v2,v3⟩:=hv f hfm
    rw[← hf]
    have hst:∀y'∈zfl a[x] b[y] d i f.lo,I64 y':=fun y' hy'=>by
     rcases zyd hy' with e |e |e
     ·rw[e];exact v2
     ·exact(ha.ni _ (List.getElem_mem hx)).2.1 _ e
     ·exact(hb.ni _ (List.getElem_mem hy)).2.1 _ e
    have hsl:=zEf a[x] b[y] d i f.lo
    have hc1:=ha.cu _ (List.getElem_mem hx)
    have hc2:=hb.cu _ (List.getElem_mem hy)
    obtain⟨b1,b2,b3,b4,b5⟩:=zxx (g:=fun v H=>zcu a b d k (zch a[x] x i v).toNat (zch b[y] y i v).toNat H) (B:=20000+k) (fun v S hS hSb=>by
     obtain⟨s1,s2,s3⟩:=zrm ha hx i v i3 (by omega)
     obtain⟨t1,t2,t3⟩:=zrm hb hy i v i4 (by omega)
     have hmin:i+1≤zel (a[(zch a[x] x i v).toNat]) (b[(zch b[y] y i v).toNat]) d:=by
      unfold zel zps
      omega
     obtain⟨a1,a2,a3,a4⟩:=zq4 a b d hd hv ha hb k _ _ S s2 t2 (by omega) (by omega) hS (by omega)
     exact⟨a1,a2,a3,by omega⟩) (zfl a[x] b[y] d i f.lo) H h (by omega)
    have hl:=b3.len
    have hgl:(zd7 (fun v H=>zcu a b d k (zch a[x] x i v).toNat (zch b[y] y i v).toNat H) (zfl a[x] b[y] d i f.lo) H).2.L.length≤inn (zd7 (fun v H=>zcu a b d k (zch a[x] x i v).toNat (zch b[y] y i v).toNat H) (zfl a[x] b[y] d i f.lo) H).2.L+2:=b1.g.len
    obtain⟨c1,c2,c3,c4⟩:=zT4 (i:=i.toNat) (st:=zfl a[x] b[y] d i f.lo) b1 (by omega) hst b2 (fun q=>by rw[q]at b5;simp at b5;exact zCa _ _ _ _ _ (List.eq_nil_of_length_eq_zero b5.symm)) (by omega) (by omega)
    refine⟨⟨c1.g,?_⟩,c2,b3.trans c3,?_⟩
    ·intro p hp
     rcases zDu hp with q |q
     ·exact c1.m p q
     ·rw[q];exact c2
    ·refine Nat.le_trans c4 ?_
     omega
end
end Go.Ev
namespace Go.Ev
open Go.Proofs Go.RowKit
noncomputable section
attribute [-go_sem] zaf zac zay zbj
theorem zSz:cx.ft.get 209=some Tryz.f209:=za9 (by decide) (by kernel_rfl)
def kAV (k:Int×Int):AV:=.agg [.int .i64 k.1,.int .i64 k.2]
def dmK:List ((Int×Int)×Int)→Nat→List (AV×AV×Nat)
 |[],_=>[]
 |(t,v)::l,n=>(kAV t,.int .i64 v,n)::dmK l (n+1)
def zj9 (t:Int×Int):List ((Int×Int)×Int)→Nat→Option (Nat×AV)
 |[],_=>none
 |(k,v)::l,i=>if t=k then some (i,.int .i64 v) else zj9 t l (i+1)
theorem zCq (t:Int×Int):∀(l:List ((Int×Int)×Int)) (n:Nat),zg6 (.agg [.int .i64 t.1,.int .i64 t.2]) (dmK l n) n=some (zj9 t l n)
 |[],n=>rfl
 |(k,v)::l,n=>by
  rw[dmK,zg6,zj9]
  by_cases e:t=k
  ·subst e
   simp[zfg,kAV]
  ·have:¬(t.1=k.1∧t.2=k.2):=fun q=>e (Prod.ext q.1 q.2)
   simp only[zfg,kAV,decide_eq_false this]
   rw[if_neg e]
   exact zCq t l (n+1)
@[go_sem] theorem zZi (x y:Int)(l:List ((Int×Int)×Int)):zg6 (.agg [.int .i64 x,.int .i64 y]) (dmK l 0) 0=some (zj9 (x,y) l 0):=zCq (x,y) l 0
theorem zp1 {t:Int×Int}:∀{l:List ((Int×Int)×Int)}(n:Nat),zec t l=none→zj9 t l n=none
 |[],_,_=>rfl
 |(k,v)::l,n,h=>by
  rw[zec]at h
  rw[zj9]
  by_cases e:t=k
  ·rw[if_pos e]at h;cases h
  ·rw[if_neg e]at h ⊢
   exact zp1 (n+1) h
theorem zqn {t:Int×Int}{v:Int}:∀{l:List ((Int×Int)×Int)}(n:Nat),zec t l=some v→∃j,zj9 t l n=some (n+j,.int .i64 v)∧j<l.length∧∀(w:Int) (m:Nat),(dmK l m).modify j (fun e=>match e with |(_,_,n)=>(.agg [.int .i64 t.1,.int .i64 t.2],.int .i64 w,n))=dmK (zew t w l) m
 |[],_,h=>by cases h
 |(k,u)::l,n,h=>by
  rw[zec]at h
  rw[zj9]
  by_cases e:t=k
  ·rw[if_pos e]at h ⊢
   cases h
   refine⟨0,rfl,by simp,fun w m=>?_⟩
   rw[zew,if_pos e,dmK,dmK,← e]
   rfl
  ·rw[if_neg e]at h ⊢
   obtain⟨j,h1,h2,h3⟩:=zqn (n+1) h
   refine⟨j+1,by rw[h1,show n+1+j=n+(j+1) by omega],by simp;omega,fun w m=>?_⟩
   rw[zew,if_neg e,dmK,dmK,← h3 w (m+1)]
   rfl
theorem zto {t:Int×Int}{w:Int}:∀{l:List ((Int×Int)×Int)},zec t l=none→zew t w l=l++[(t,w)]
 |[],_=>rfl
 |(k,v)::l,h=>by
  rw[zec]at h
  rw[zew]
  by_cases e:t=k
  ·rw[if_pos e]at h;cases h
  ·rw[if_neg e]at h ⊢
   rw[zto h]
   rfl
theorem zv3 (t:Int×Int) (w:Int):∀(l:List ((Int×Int)×Int)) (n:Nat),dmK (l++[(t,w)]) n=dmK l n++[(.agg [.int .i64 t.1,.int .i64 t.2],.int .i64 w,n+l.length)]
 |[],n=>rfl
 |(k,v)::l,n=>by
  rw[List.cons_append,dmK,dmK,zv3 t w l (n+1)]
  simp
  omega
theorem zut {t:Int×Int}{w:Int}:∀{l:List ((Int×Int)×Int)}{v:Int},zec t l=some v→(zew t w l).length=l.length
 |[],_,h=>by cases h
 |(k,u)::l,v,h=>by
  rw[zec]at h
  rw[zew]
  by_cases e:t=k
  ·rw[if_pos e];rfl
  ·rw[if_neg e]at h ⊢
   simp[zut h]
def zur (e b:Nat):AV:=.func 209 [] [.ptr (b+3) 0,.ptr e 0,.ptr (e+1) 0,.ptr (e+2) 0,.ptr (b+1) 0,.ptr (b+4) 0]
structure HSt (O:Nat→Prop) (e b:Nat)(u v w:Bool)(x y:List Nd)(d:List Fc)(H:HS)(h:Tr ABlk) (nx:Nat):Prop where
 le:e+3≤b
 lb:b+5≤nx
 hO:∀k,O k→k=b∨b+5≤k
 gx:h.get e=some (bx 92 [.fz 4 u (zal x)] false 0)
 gy:h.get (e+1)=some (bx 92 [.fz 4 v (zal y)] false 0)
 gd:h.get (e+2)=some (bx 35 [.fz 4 w (za8 d)] false 0)
 gm:h.get (b+1)=some (bx 182 [.ptr b 0] false 0)
 gM:h.get (b+2)=some (.map (dmK H.M 0) H.M.length)
 gv:h.get (b+3)=some (bx 236 [.map (b+2)] false 0)
 gg:h.get (b+4)=some (bx 199 [zur e b] false 0)
 mkS:zcx O h nx b H.L
def KH (O:Nat→Prop) (b:Nat)(h:Tr ABlk) (nx:Nat)(O':Nat→Prop)(g:Tr ABlk) (ny:Nat):Prop:=nx≤ny∧(∀k,k<nx→¬O k→k≠b+2→g.get k=h.get k)∧∀k,O' k→O k∨nx≤k
section
variable {O O' O1 O2 : Nat → Prop} {e b q : Nat} {u v w : Bool} {x y : List Nd} {d : List Fc} {H : HS} {h g f : Tr ABlk} {nx ny n1 n2 : Nat}
theorem HSt.ext (G:HSt O e b u v w x y d H h nx)(x':Ext nx h g)(hn:nx≤ny):HSt O e b u v w x y d H g ny:=by
 obtain⟨le,lb,hO,gx,gy,gd,gm,gM,gv,gg,mk⟩:=G
 refine⟨le,by omega,hO,?_,?_,?_,?_,?_,?_,?_,mk.ext x' hn⟩
 all_goals (rw[x' _ (by omega)];assumption)
theorem HSt.node {L':List Nd}(G:HSt O e b u v w x y d H h nx)(K:zbp O h nx O' g ny)(m:zcx O' g ny b L'):HSt O' e b u v w x y d { H with L:=L' } g ny:=by
 obtain⟨le,lb,hO,gx,gy,gd,gm,gM,gv,gg,mk⟩:=G
 obtain⟨k1,k2,k3⟩:=K
 have hn:∀k,O k→k=b∨b+5≤k:=hO
 refine⟨le,by omega,fun k hk=>?_,?_,?_,?_,?_,?_,?_,?_,m⟩
 ·rcases k3 k hk with q |q
  ·exact hO k q
  ·exact .inr (by omega)
 all_goals (rw[k2 _ (by omega) (fun q=>by have:=hn _ q;omega)];assumption)
theorem HSt.setM (G:HSt O e b u v w x y d H h nx)(M':List ((Int×Int)×Int)):HSt O e b u v w x y d { H with M:=M' } (h.put (b+2) (some (.map (dmK M' 0) M'.length))) nx:=by
 obtain⟨le,lb,hO,gx,gy,gd,gm,gM,gv,gg,mk⟩:=G
 refine⟨le,lb,hO,?_,?_,?_,?_,by simp[go_sem],?_,?_,mk.mono (fun _ q=>q) (fun k hk q=>by have:=hO k q;rw[Tr.get_put,if_neg (by omega)]) (Nat.le_refl _)⟩
 all_goals (rw[Tr.get_put,if_neg (by omega)];assumption)
theorem HSt.but (G:HSt O e b u v w x y d H h nx)(hq:b+5≤q)(hO:¬O q)(x':∀k,k<nx→k≠q→g.get k=h.get k)(hn:nx≤ny):HSt O e b u v w x y d H g ny:=by
 obtain⟨le,lb,hO,gx,gy,gd,gm,gM,gv,gg,mk⟩:=G
 refine⟨le,by omega,hO,?_,?_,?_,?_,?_,?_,?_,mk.mono (fun _ q=>q) (fun k hk hk2=>x' k hk (fun e2=>by subst e2;contradiction)) hn⟩
 all_goals (rw[x' _ (by omega) (by omega)];assumption)
theorem HSt.low (G:HSt O e b u v w x y d H h nx):HSt (fun k=>O k∧k<nx) e b u v w x y d H h nx:=by
 obtain⟨le,lb,hO,gx,gy,gd,gm,gM,gv,gg,mk⟩:=G
 exact⟨le,lb,fun k hk=>hO k hk.1,gx,gy,gd,gm,gM,gv,gg,mk.low⟩
theorem KH.trans (x:KH O b h nx O1 g n1)(y:KH O1 b g n1 O2 f n2):KH O b h nx O2 f n2:=by
 obtain⟨a1,a2,a3⟩:=x
 obtain⟨b1,b2,b3⟩:=y
 refine⟨by omega,fun k k1 k2 k3=>?_,fun k hk=>?_⟩
 ·rw[b2 k (by omega) (fun q=>by rcases a3 k q with r |r;exact k2 r;omega) k3,a2 k k1 k2 k3]
 ·rcases b3 k hk with q |q
  ·exact a3 k q
  ·exact .inr (by omega)
theorem KH.ofExt (x:Ext nx h g)(hn:nx≤ny):KH O b h nx O g ny:=⟨hn,fun k hk _ _=>x k hk,fun _ h=>.inl h⟩
theorem KH.ofKept (K:zbp O h nx O' g ny):KH O b h nx O' g ny:=⟨K.1,fun k hk ho _=>K.2.1 k hk ho,K.2.2⟩
theorem KH.setM (B:Option ABlk):KH O b h nx O (h.put (b+2) B) nx:=⟨Nat.le_refl _,fun k _ _ h4=>by rw[Tr.get_put,if_neg h4],fun _ h=>.inl h⟩
theorem KH.low (K:KH O b h nx O' g ny):KH O b h nx (fun k=>O' k∧k<ny) g ny:=⟨K.1,K.2.1,fun k hk=>K.2.2 k hk.1⟩
theorem KH.up (K:KH (fun k=>O k∧k<nx) b h nx O' g ny):KH O b h nx O' g ny:=⟨K.1,fun k h1 h2=>K.2.1 k h1 (fun q=>h2 q.1),fun k hk=>by rcases K.2.2 k hk with q |q;exact .inl q.1;exact .inr q⟩
theorem KH.but (K:KH O b h nx O1 g n1)(hq:nx≤q)(x:∀k,k<n1→k≠q→f.get k=g.get k)(hn:n1≤n2):KH O b h nx O1 f n2:=by
 obtain⟨a1,a2,a3⟩:=K
 exact⟨by omega,fun k k1 k2 k3=>by rw[x k (by omega) (by omega),a2 k k1 k2 k3],a3⟩
theorem HSt.all (G:HSt O e b u v w x y d H h nx):∃a c,h.get b=some (bx 187 [a,c] false 0)∧((H.L.length=0∧a=.sl0)∨∃q,a=.sl q 0 H.L.length 0 true):=by
 obtain⟨_,a,c,h1,h2⟩:=G.mkS
 refine⟨a,c,h1,?_⟩
 rcases h2.2.2.2 with⟨q1,q2,q3⟩ |⟨q1,m,q,_,_,_,_,_,_,_,_,_,q2,_⟩
 ·exact .inl ⟨by rw[q1];rfl,q2⟩
 ·exact .inr ⟨q,q2⟩
end
def zuo (a b:List Nd)(d:List Fc) (e bb k x y:Nat)(u v w:Bool)(H:HS)(O:Nat→Prop)(h:Tr ABlk) (nx:Nat)(R:AV→Tr ABlk→Nat→Prop):Prop:=
 ∀O' g ny,KH O bb h nx O' g ny→HSt O' e bb u v w a b d (zcu a b d k x y H).2 g ny→R (.int .i64 (zcu a b d k x y H).1) g ny
def zvc (x y e b:Nat):List AV:=[.int .i64 (x:Int),.int .i64 (y:Int),.ptr (b+3) 0,.ptr e 0,.ptr (e+1) 0,.ptr (e+2) 0,.ptr (b+1) 0,.ptr (b+4) 0]
end
end Go.Ev
