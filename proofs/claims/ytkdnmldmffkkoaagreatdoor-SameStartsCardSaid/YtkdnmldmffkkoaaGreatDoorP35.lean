/- Texts T84 T85 T86 T87 T88. -/
import Derived.KernelRfl
import Derived.Test.YtkdnmldmffkkoaaGreatDoorP34
set_option linter.unusedSimpArgs false
set_option linter.unusedVariables false
set_option maxRecDepth 100000
namespace Go.Ev
open Go.Proofs Go.RowKit
noncomputable section
def zka (x:Int):List Int→List Int
 |[]=>[x]
 |y::l=>if x≤y then x::y::l else y::zka x l
def zmg:List Int→List Int
 |[]=>[]
 |x::l=>zka x (zmg l)
theorem zwo (x:Int):∀l,(zka x l).Perm (x::l)
 |[]=>.refl _
 |y::l=>by
  rw[zka]
  split
  ·exact .refl _
  ·exact((zwo x l).cons y).trans (.swap x y l)
theorem zDa:∀l,(zmg l).Perm l
 |[]=>.refl _
 |x::l=>(zwo x _).trans ((zDa l).cons x)
theorem zA2 (x:Int):∀l:List Int,l.Pairwise (·≤·)→(zka x l).Pairwise (·≤·)
 |[],_=>by simp[zka]
 |y::l,h=>by
  rw[zka]
  have h2:=List.pairwise_cons.1 h
  split
  ·rename_i hx
   refine List.pairwise_cons.2 ⟨fun z hz=>?_,h⟩
   rcases List.mem_cons.1 hz with rfl |hz
   ·exact hx
   ·have:=h2.1 z hz;omega
  ·rename_i hx
   refine List.pairwise_cons.2 ⟨fun z hz=>?_,zA2 x l h2.2⟩
   rcases List.mem_cons.1 ((zwo x l).mem_iff.1 hz) with rfl |hz
   ·omega
   ·exact h2.1 z hz
theorem zyk:∀l:List Int,(zmg l).Pairwise (·≤·)
 |[]=>.nil
 |x::l=>zA2 x _ (zyk l)
theorem zzu (l:List Int):zbc l=zmg l:=by
 have hs:(zbc l).Pairwise (·≤·):=by
  have:=List.pairwise_mergeSort (le:=fun x y:Int=>decide (x≤y)) (fun a b c h1 h2=>by simp at *;omega) (fun a b=>by simp;omega) l
  exact this.imp fun h=>by simpa using h
 exact((List.mergeSort_perm l _).trans (zDa l).symm).eq_of_pairwise (fun a b _ _ h1 h2=>by omega) hs (zyk l)
def zqi (f:Fm)(x:Fc):List Int:=zby ((zmg (zcf x.name [x.lo] f)).filter fun y=>!zcb x y)
theorem zU9 (f:Fm)(x:Fc):zcg f x=zqi f x:=by unfold zcg zqi;rw[zzu]
def zwm (L:List Nd)(n:Nd):List Nd:=if ((L.map zb3).any fun k=>decide (k=zb3 n))=true then L else L++[n]
theorem zMz (L:List Nd)(n:Nd):zeh L n=zwm L n:=by
 unfold zeh zwm
 by_cases h:zb3 n∈L.map zb3
 ·rw[if_pos h,if_pos (List.any_eq_true.2 ⟨_,h,decide_eq_true rfl⟩)]
 ·rw[if_neg h,if_neg fun q=>by
   obtain⟨x,hx,e⟩:=List.any_eq_true.1 q
   exact h (of_decide_eq_true e ▸ hx)]
def ziv (n:Nd)(S:GS):Int×GS:=((zeq S.L n:Int),{ S with L:=zwm S.L n })
theorem zra (n:Nd)(S:GS):zbn n S=ziv n S:=by unfold zbn ziv;rw[zMz]
def zn7 (i:Nat)(st ks:List Int)(S:GS):Int×GS:=
 let n:Nd:=⟨(i:Int),(zax (zd2 ks) [] [zd2 ks] st ks).2.1,(zax (zd2 ks) [] [zd2 ks] st ks).2.2,false⟩
 if n.kids.length=1 then (zd2 ks,S) else ziv n S
theorem zDw (i:Nat)(st ks:List Int)(S:GS):zdg i st ks S=zn7 i st ks S:=by
 unfold zdg zn7
 simp only[zra]
def zl3 (d:List Fc):Nat→Fm→GS→Int×GS
 |0,f,S=>if f.op=1∨f.op=2 then ziv (zb9 (decide (f.op=1))) S else ziv (zb9 false) { S with full:=zdy S }
 |k+1,f,S=>if f.op=1∨f.op=2 then ziv (zb9 (decide (f.op=1))) S else
   if zdy S then ziv (zb9 false) { S with full:=true } else
   match ze6 (zla (d.length-(k+1)) f) S.D with
   |some v=>(v,{ S with full:=false })
   |none=>
    let x:=d.getD (d.length-(k+1)) ⟨.empty,0,0,0⟩
    let r:=zc1 (fun v S=>zl3 d k (zb6 x.name v f) S) (zqi f x) { S with full:=false }
    let o:=zn7 (d.length-(k+1)) (zqi f x) r.1 r.2
    (o.1,{ o.2 with D:=zej (zla (d.length-(k+1)) f) o.1 o.2.D })
theorem zvj (d:List Fc):∀(k:Nat)(f:Fm)(S:GS),zb5 d k f S=zl3 d k f S
 |0,f,S=>by rw[zb5,zl3];simp only[zra]
 |k+1,f,S=>by
  have ih:zb5 d k=zl3 d k:=by funext f S;exact zvj d k f S
  rw[zb5,zl3,ih]
  simp only[zU9,zra,zDw]
  rfl
def gI (f:Fm):Int×GS:=zl3 d0 1 (zb6 .empty 0 f) ⟨[],[],false⟩
def dI (f:Fm):List Nd:=zdh (gI f).2.L (gI f).1
theorem zAs (f:Fm):zeg d0 f=gI f:=by
 unfold zeg gI
 exact zvj d0 1 _ _
theorem zp4 {f:Fm}(h1:ckN d0 f=0)(h2:(zct [] f).length≤24)(h3:(gI f).2.full=false)(h4:(zc8 (gI f).2.L (gI f).1).length≤20000):zbx d0 f=0∧zd4 d0 f=dI f:=by
 have he:zbx d0 f=0:=by
  unfold zbx
  rw[zAs,if_neg (by rw[zf1,h1];simp),if_neg (by omega),if_neg (by rw[h3];simp;omega)]
 refine⟨he,?_⟩
 unfold zd4
 rw[if_pos he,zAs]
 rfl
theorem zv0:zbx d0 (zan p1.when_)=0∧zd4 d0 (zan p1.when_)=dI (wT 6 18):=
 zp4 (f:=wT 6 18) (by kernel_rfl) (by simp[wT,zct,zce,zcj]) (by kernel_rfl) (by rw[show (zc8 (gI (wT 6 18)).2.L (gI (wT 6 18)).1).length=3 by kernel_rfl];omega)
theorem zUa:zbx d0 (zan p2.when_)=0∧zd4 d0 (zan p2.when_)=dI (wT 5 18):=
 zp4 (f:=wT 5 18) (by kernel_rfl) (by simp[wT,zct,zce,zcj]) (by kernel_rfl) (by rw[show (zc8 (gI (wT 5 18)).2.L (gI (wT 5 18)).1).length=3 by kernel_rfl];omega)
def f4:Fm:=.mk 5 .empty 0 0 [wT 3 18]
theorem zQ3:zbx d0 (zan p4.when_)=0∧zd4 d0 (zan p4.when_)=dI f4:=
 zp4 (f:=f4) (by kernel_rfl) (by simp[f4,wT,zct,zce,zcj]) (by kernel_rfl) (by rw[show (zc8 (gI f4).2.L (gI f4).1).length=3 by kernel_rfl];omega)
def ztf (p q:Nd)(d:List Fc) (i:Int) (lo:Int):List Int:=zby (zmg (([lo]++(if zbs p d=i then p.cuts else []))++(if zbs q d=i then q.cuts else [])))
theorem zP9 (p q:Nd)(d:List Fc) (i lo:Int):zfl p q d i lo=ztf p q d i lo:=by unfold zfl ztf;rw[zzu]
def zs7 (n:Nd)(H:HS):Int×HS:=((ziv n H.gs).1,{ H with L:=(ziv n H.gs).2.L })
theorem zFp (n:Nd)(H:HS):zi8 n H=zs7 n H:=by unfold zi8 zs7;rw[zra]
def zsx (i:Nat)(st ks:List Int)(H:HS):Int×HS:=((zn7 i st ks H.gs).1,{ H with L:=(zn7 i st ks H.gs).2.L })
theorem zFy (i:Nat)(st ks:List Int)(H:HS):zfs i st ks H=zsx i st ks H:=by unfold zfs zsx;rw[zDw]
def zmb (a b:List Nd)(d:List Fc):Nat→Nat→Nat→HS→Int×HS
 |0,_,_,H=>(0,H)
 |k+1,x,y,H=>match zec ((x:Int),(y:Int)) H.M with
  |some v=>(v,H)
  |none=>
   let p:=a.getD x (zb9 false)
   let q:=b.getD y (zb9 false)
   let i:=zel p q d
   if i=(d.length:Int)∨20000<H.L.length then zs7 (zb9 (p.leaf && q.leaf)) H
   else
    let st:=ztf p q d i (d.getD i.toNat ⟨.empty,0,0,0⟩).lo
    let r:=zd7 (fun v H=>zmb a b d k (zch p x i v).toNat (zch q y i v).toNat H) st H
    let o:=zsx i.toNat st r.1 r.2
    (o.1,{ o.2 with M:=zew ((x:Int),(y:Int)) o.1 o.2.M })
theorem zEw (a b:List Nd)(d:List Fc):∀(k x y:Nat)(H:HS),zcu a b d k x y H=zmb a b d k x y H
 |0,x,y,H=>by rw[zcu,zmb]
 |k+1,x,y,H=>by
  have ih:zcu a b d k=zmb a b d k:=by funext x y H;exact zEw a b d k x y H
  rw[zcu,zmb,ih]
  simp only[zP9,zFp,zFy]
  rfl
def d2:List Fc:=[⟨zcn,2,0,150⟩,⟨zc4,1,0,1⟩]
theorem zOo:zgg d0 (zc6 p7.when_++zc6 p6.when_) [] d0=some d2:=by
 have h7:zc6 p7.when_=[zc4]:=by kernel_rfl
 have h6:zc6 p6.when_=[zc4]:=by kernel_rfl
 have h:¬zcn=zc4:=fun e=>absurd (congrArg ByteArray.size e) (by decide)
 rw[h7,h6]
 simp[zgg,d0,d2,zb8,h]
theorem zKq:zn2 zc4:=by
 refine⟨?_,by intro h;exact absurd (congrArg ByteArray.size h) (by decide),by decide⟩
 intro i h
 have h3:i<4:=h
 rcases (by omega:i=0∨i=1∨i=2∨i=3) with rfl |rfl |rfl |rfl
 ·show zdw 0 112;simp[zdw]
 ·show zdw 1 111;simp[zdw]
 ·show zdw 2 111;simp[zdw]
 ·show zdw 3 114;simp[zdw]
theorem zi9:zc5 d2=true:=by
 refine zu3 ⟨⟨?_,?_⟩,by decide⟩
 ·intro f hf
  simp[d2]at hf
  rcases hf with rfl |rfl
  ·exact⟨.inr ⟨.inl rfl,by decide,by decide,by decide⟩,zqw zyr⟩
  ·exact⟨.inl ⟨rfl,rfl,rfl⟩,zqw zKq⟩
 ·have h:¬zcn=zc4:=fun e=>absurd (congrArg ByteArray.size e) (by decide)
  simp[d2,h]
def gI2 (f:Fm):Int×GS:=zl3 d2 2 (zb6 .empty 0 f) ⟨[],[],false⟩
def dI2 (f:Fm):List Nd:=zdh (gI2 f).2.L (gI2 f).1
theorem zB7 (f:Fm):zeg d2 f=gI2 f:=by
 unfold zeg gI2
 exact zvj d2 2 _ _
theorem zFb {f:Fm}(h1:ckN d2 f=0)(h2:(zct [] f).length≤24)(h3:(gI2 f).2.full=false)(h4:(zc8 (gI2 f).2.L (gI2 f).1).length≤20000):zbx d2 f=0∧zd4 d2 f=dI2 f:=by
 have he:zbx d2 f=0:=by
  unfold zbx
  rw[zB7,if_neg (by rw[zi9,h1];simp),if_neg (by omega),if_neg (by rw[h3];simp;omega)]
 refine⟨he,?_⟩
 unfold zd4
 rw[if_pos he,zB7]
 rfl
def f6:Fm:=.mk 3 zc4 1 1 []
def f7:Fm:=.mk 7 .empty 0 0 [f6,wT 3 5]
theorem zJk:zbx d2 (zan p6.when_)=0∧zd4 d2 (zan p6.when_)=dI2 f6:=
 zFb (f:=f6) (by kernel_rfl) (by simp[f6,zct,zce,zcj]) (by kernel_rfl) (by rw[show (zc8 (gI2 f6).2.L (gI2 f6).1).length=3 by kernel_rfl];omega)
theorem zMt:zbx d2 (zan p7.when_)=0∧zd4 d2 (zan p7.when_)=dI2 f7:=by
 have hn:(zct [] f7).length≤24:=by
  simp only[f7,f6,wT,zct,zce]
  simp[zcj]
  split <;> simp
 have hl:(zc8 (gI2 f7).2.L (gI2 f7).1).length≤20000:=by
  rw[show (zc8 (gI2 f7).2.L (gI2 f7).1).length=4 by kernel_rfl];omega
 exact zFb (f:=f7) (by kernel_rfl) hn (by kernel_rfl) hl
instance cutsDec (hi:Int):∀(lo:Int) (l:List Int),Decidable (zfk hi lo l)
 |_,[]=>.isTrue trivial
 |_,c::l=>@instDecidableAnd _ _ inferInstance (@instDecidableAnd _ _ inferInstance (cutsDec hi c l))
instance kidDec (g:List Nd) (n:Nd) (k:Nat) (x:Int):Decidable (zgf g n k x):=
 inferInstanceAs (Decidable (x<0∨(g.length:Int)≤x∨(0<k∧n.kids.getD (k-1) 0=x)∨(∃h:x.toNat<g.length,¬(g[x.toNat]).kids=[]∧(g[x.toNat]).fact≤n.fact)))
instance properDec (g:List Nd) (n:Nd) (d:List Fc):Decidable (zek g n d):=
 inferInstanceAs (Decidable ((n.kids=[]∧n.fact=0∧n.cuts=[])∨(¬n.kids=[]∧n.leaf=false∧0≤n.fact∧¬n.cuts=[]∧n.kids.length=n.cuts.length+1∧∃h:n.fact.toNat<d.length,zfk (d[n.fact.toNat]).hi (d[n.fact.toNat]).lo n.cuts∧∀k (hk:k<n.kids.length),¬zgf g n k n.kids[k])))
def ckG (g:List Nd)(d:List Fc):Bool:=decide (0<g.length∧g.length≤20000∧(∀n∈g,zek g n d)∧(g.map zb3).Nodup)
theorem zga {g:List Nd}{d:List Fc}(h:zc5 d=true)(h2:ckG g d=true)(h3:zdh g 0=g):zbk g d=true:=by
 have:=of_decide_eq_true h2
 exact zuj ⟨h,this.1,this.2.1,this.2.2.1,this.2.2.2,h3⟩
def ndL (b:Bool):Nd:=⟨0,[],[],b⟩
def g1:List Nd:=[⟨0,[18],[1,2],false⟩,ndL false,ndL true]
def g2:List Nd:=[⟨0,[19],[1,2],false⟩,ndL false,ndL true]
def g6:List Nd:=[⟨1,[1],[1,2],false⟩,ndL false,ndL true]
def g7:List Nd:=[⟨0,[5],[1,2],false⟩,ndL true,⟨1,[1],[3,1],false⟩,ndL false]
theorem zvs:dI (wT 6 18)=g1:=by kernel_rfl
theorem zL1:dI (wT 5 18)=g2:=by kernel_rfl
theorem zQi:dI f4=g1:=by kernel_rfl
theorem zIp:dI2 f6=g6:=by kernel_rfl
theorem zTa:dI2 f7=g7:=by kernel_rfl
def zkc (a b:List Nd)(d:List Fc):Int×HS:=zmb a b d (d.length+1) 0 0 ⟨[],[]⟩
theorem zxb (a b:List Nd)(d:List Fc):zd5 a b d=zkc a b d:=by unfold zd5 zkc;exact zEw _ _ _ _ _ _ _
theorem zny {a b:List Nd}{d:List Fc}{r:List Nd}(ha:zbk a d=true)(hb:zbk b d=true)(h1:Nat.ble (zkc a b d).2.L.length 20000=true)(h2:Nat.ble (zc8 (zkc a b d).2.L (zkc a b d).1).length 20000=true)(h3:zdh (zkc a b d).2.L (zkc a b d).1=r):zfp a b d=0∧zgu a b d=r:=by
 have he:zfp a b d=0:=by
  unfold zfp
  rw[zxb,if_neg (by rw[ha,hb];simp),if_neg (by have:=Nat.le_of_ble_eq_true h1;omega),if_neg (by have:=Nat.le_of_ble_eq_true h2;omega)]
 refine⟨he,?_⟩
 unfold zgu
 rw[if_pos he,zxb,h3]
theorem zo3 {x y:List Nd}{d:List Fc}{r:List Nd}{c:List Int}{b:Bool}(h:zfp x (y.map zcc) d=0∧zgu x (y.map zcc) d=r)(hl:zff r d=(c,b)):zee x y d=⟨c,b,0⟩:=by
 unfold zee
 rw[if_neg (by rw[h.1];simp),h.2,hl]
theorem zoa {g:List Nd}{d:List Fc}{c:List Int}{b:Bool}(hd:zc5 d=true)(hv:zbk g d=true)(h:(match g[(ze2 g (d.length+1) 0 (d.map (·.lo))).1]? with
  |some m=>if m.leaf=true then ((ze2 g (d.length+1) 0 (d.map (·.lo))).2,true) else ([],false)
  |none=>([],false))=(c,b)):zff g d=(c,b):=by
 unfold zff
 rw[if_pos hv]
 have e:ze1 d=d.map (·.lo):=by unfold ze1;rw[hd];rfl
 rw[e]
 exact h
def g12:List Nd:=[⟨0,[18,19],[1,2,1],false⟩,ndL false,ndL true]
def g76:List Nd:=[⟨0,[5],[1,3],false⟩,⟨1,[1],[2,3],false⟩,ndL true,ndL false]
theorem v1:zbk g1 d0=true:=zga zf1 (by kernel_rfl) (by kernel_rfl)
theorem v2:zbk g2 d0=true:=zga zf1 (by kernel_rfl) (by kernel_rfl)
theorem v1n:zbk (g1.map zcc) d0=true:=zga zf1 (by kernel_rfl) (by kernel_rfl)
theorem v2n:zbk (g2.map zcc) d0=true:=zga zf1 (by kernel_rfl) (by kernel_rfl)
theorem v6:zbk g6 d2=true:=zga zi9 (by kernel_rfl) (by kernel_rfl)
theorem v7:zbk g7 d2=true:=zga zi9 (by kernel_rfl) (by kernel_rfl)
theorem v6n:zbk (g6.map zcc) d2=true:=zga zi9 (by kernel_rfl) (by kernel_rfl)
theorem v7n:zbk (g7.map zcc) d2=true:=zga zi9 (by kernel_rfl) (by kernel_rfl)
theorem v12:zbk g12 d0=true:=zga zf1 (by kernel_rfl) (by kernel_rfl)
theorem v76:zbk g76 d2=true:=zga zi9 (by kernel_rfl) (by kernel_rfl)
theorem vF:zbk [ndL false] d0=true:=zga zf1 (by kernel_rfl) (by kernel_rfl)
theorem vF2:zbk [ndL false] d2=true:=zga zi9 (by kernel_rfl) (by kernel_rfl)
theorem w11:zee g1 g1 d0=⟨[],false,0⟩:=zo3 (zny v1 v1n (by kernel_rfl) (by kernel_rfl) (r:=[ndL false]) (by kernel_rfl)) (zoa zf1 vF (by kernel_rfl))
theorem w12:zee g1 g2 d0=⟨[18],true,0⟩:=zo3 (zny v1 v2n (by kernel_rfl) (by kernel_rfl) (r:=g12) (by kernel_rfl)) (zoa zf1 v12 (by kernel_rfl))
theorem w21:zee g2 g1 d0=⟨[],false,0⟩:=zo3 (zny v2 v1n (by kernel_rfl) (by kernel_rfl) (r:=[ndL false]) (by kernel_rfl)) (zoa zf1 vF (by kernel_rfl))
theorem w76:zee g7 g6 d2=⟨[0,0],true,0⟩:=zo3 (zny v7 v6n (by kernel_rfl) (by kernel_rfl) (r:=g76) (by kernel_rfl)) (zoa zi9 v76 (by kernel_rfl))
theorem w67:zee g6 g7 d2=⟨[],false,0⟩:=zo3 (zny v6 v7n (by kernel_rfl) (by kernel_rfl) (r:=[ndL false]) (by kernel_rfl)) (zoa zi9 vF2 (by kernel_rfl))
theorem zpc {a b:Pv}{d D:List Fc}{c:CA}(hv:zc5 d=true)(ha:zeu d a.when_=0)(hb:zeu d b.when_=0)(hm:zgg d (zc6 a.when_++zc6 b.when_) [] d=some D)(hD:D.length≤60)(hf:zg8 a b)(hs:(zaw a.begin_ b.begin_ && zaw a.end_ b.end_ && zaw a.again b.again)=true)(hc:zfj a.when_ b.when_ D=c)(he:c.e=0):zc9 a b d=if c.f=true then ⟨3,c.c,0⟩ else ⟨0,[],0⟩:=by
 unfold zc9
 rw[if_neg (by rw[hv];simp),if_neg (by rw[ha];simp),if_neg (by rw[hb];simp),hm]
 show zhj a b D=_
 unfold zhj
 rw[if_neg (by omega),if_neg (by simpa using hf),if_neg (by rw[hs];simp),hc,if_neg (by rw[he];simp)]
theorem zos {a b:Fm}{D:List Fc}{x y:List Nd}{p q:WR}(ha:zbx D (zan a)=0∧zd4 D (zan a)=x)(hb:zbx D (zan b)=0∧zd4 D (zan b)=y)(hp:zee x y D=p)(hq:zee y x D=q):zfj a b D=zuc p q:=by
 unfold zfj
 rw[if_neg (by rw[ha.1];simp),if_neg (by rw[hb.1];simp),ha.2,hb.2,hp,hq]
theorem zvd (w w':Fm):zg8 (pvT w 0) (pvT w' 0):=by
 unfold zg8
 simp[pvT]
theorem zNp:zc9 p1 p4 d0=⟨0,[],0⟩:=
 zpc (c:=⟨false,[],0⟩) zf1 (by kernel_rfl) (by kernel_rfl) (by kernel_rfl:_=some d0) (by decide) (zvd _ _) (by kernel_rfl) ((zos (zvs ▸ zv0) (zQi ▸ zQ3) w11 w11).trans (by kernel_rfl)) rfl
theorem zIw:zc9 p1 p2 d0=⟨3,[18],0⟩:=
 zpc (c:=⟨true,[18],0⟩) zf1 (by kernel_rfl) (by kernel_rfl) (by kernel_rfl:_=some d0) (by decide) (zvd _ _) (by kernel_rfl) ((zos (zvs ▸ zv0) (zL1 ▸ zUa) w12 w21).trans (by kernel_rfl)) rfl
theorem zOu:zc9 p7 p6 d0=⟨3,[0,0],0⟩:=
 zpc (c:=⟨true,[0,0],0⟩) zf1 (by kernel_rfl) (by kernel_rfl) zOo (by decide) (zvd _ _) (by kernel_rfl) ((zos (zTa ▸ zMt) (zIp ▸ zJk) w76 w67).trans (by kernel_rfl)) rfl
end
end Go.Ev
