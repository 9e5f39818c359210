/- Texts T41 T26 T31 T32 T42 T43 T35 T33. -/
import Derived.Test.YtkdnmldmffkkoaaGreatDoorP18
set_option linter.unusedSimpArgs false
set_option linter.unusedVariables false
set_option maxRecDepth 100000
namespace Go.Ev
open Go.Proofs Go.Sort
noncomputable section
attribute [-go_sem] zaf zac zay
theorem zQ4:cx.ft.get 254=some Tryz.f254:=za9 (by decide) (by kernel_rfl)
theorem zTe:cx.ft.get 198=some Tryz.f198:=za9 (by decide) (by kernel_rfl)
theorem zR1:cx.ft.get 141=some Tryz.f141:=za9 (by decide) (by kernel_rfl)
@[go_sem] theorem zVv (l:List UInt8):zgc (zam l)=some l:=zy6 l
@[go_sem] theorem yde (k:IntKind):idx (.int k 1)=some 1:=rfl
@[go_sem] theorem zZg (k:IntKind):idx (.int k 0)=some 0:=rfl
@[go_sem] theorem zHa (n0:Nat)(e:TypeId) (size b:Nat)(z:Option AV) (x:Nat) (s:Nat)(y:Bool)(fs:List (Nat×Nat×Bool)) (i o:Nat)(k:IntKind) (n:Nat)(h:Tr ABlk) (nx:Nat)(hn:n<n0):
  zd3 (.mk (.array n0 e) size b z ((x,s,y)::fs)) (.ptr i o) (.int k (n:Int)) h nx=.val (.ptr i (o+n * s)) h nx:=by
 simp[zd3,zkj,zcl,Nat.succ_le_of_lt hn,fN_eq]
@[go_sem] theorem yay (n0:Nat)(e:TypeId) (size b:Nat)(z:Option AV) (x:Nat) (s:Nat)(y:Bool)(fs:List (Nat×Nat×Bool)) (i o:Nat)(k:IntKind)(h:Tr ABlk) (nx:Nat)(hn:0<n0):
  zd3 (.mk (.array n0 e) size b z ((x,s,y)::fs)) (.ptr i o) (.int k 0) h nx=.val (.ptr i o) h nx:=by
 have:=zHa n0 e size b z x s y fs i o k 0 h nx hn
 simpa using this
def zu1 (B:Option ABlk) (o l:Nat)(h:Tr ABlk) (nx:Nat):R:=match B with
 |some (.cells _ n c _ _)=>match Nat.ble (Nat.add o l) n with
  |true=>match zci c l o with
   |some cs=>match zgc cs with
    |some r=>.val (.bs ⟨r.toArray⟩) h nx
    |none=>.fail
   |none=>.fail
  |false=>.fail
 |_=>.fail
def zDm (r:Option (List UInt8))(h:Tr ABlk) (nx:Nat):R:=match r with
 |some r=>.val (.bs ⟨r.toArray⟩) h nx
 |none=>.fail
@[go_sem] theorem zVk (ts:TI)(k k':IntKind) (d1 d2:Nat)(d3:Option AV)(d4:List (Nat×Nat×Bool))(te:Option TI)(et:TypeId) (n:Int)(h:Tr ABlk) (nx:Nat):zay ts (.mk (.int k) d1 d2 d3 d4) te et (.int k' n) h nx=.val (.int k (k.wrap n)) h nx:=by
 cases ts;rfl
@[go_sem high] theorem zZh (e s1 s2 d1 d2 t1 t2:Nat)(s3 d3 t3:Option AV)(s4 d4 t4:List (Nat×Nat×Bool)) (i o l cp:Nat)(opn:Bool)(h:Tr ABlk) (nx:Nat):
  zay (.mk (.slice e) s1 s2 s3 s4) (.mk .string d1 d2 d3 d4) (some (.mk (.int .u8) t1 t2 t3 t4)) e (.sl i o l cp opn) h nx=zu1 (h.get i) o l h nx:=by
 simp only[zay,Nat.beq_refl]
 rfl
@[go_sem] theorem zYi (t:TypeId)(L:List AV)(opn:Bool) (esz o l:Nat)(h:Tr ABlk) (nx:Nat)(hl:o+l≤L.length):zu1 (some (bx t L opn esz)) o l h nx=zDm (zgc ((L.drop o).take l)) h nx:=by
 have e1:Nat.ble (Nat.add o l) L.length=true:=Nat.ble_eq_true_of_le hl
 simp only[zu1,bx,e1,zpj L l o hl]
 cases zgc ((L.drop o).take l) <;> rfl
@[go_sem] theorem yb4 (r:List UInt8)(h:Tr ABlk) (nx:Nat):zDm (some r) h nx=.val (.bs ⟨r.toArray⟩) h nx:=rfl
set_option maxHeartbeats 1000000 in
theorem zJr (i:Int)(h0:-9223372036854775808≤i)(h1:i≤9223372036854775807):Ret Tryz.prog cx 254 [.int .i64 i,.int .i64 10] (.bs ⟨(Lib.itoa i).toArray⟩):=by
 refine Ret.mk fun h nx R hR=>zaa (sz:=54) (rs:=[.tmp 4]) za4 zQ4 rfl rfl rfl (by simp) ?_
 by_cases c1:0≤i∧i<100
 ·obtain⟨u,hu⟩:∃u:Nat,i=(u:Int):=⟨i.toNat,by omega⟩
  have hit:Lib.itoa i=Lib.decDigits u:=by rw[Lib.itoa,if_neg (by omega),hu];simp
  rw[hit]at hR
  have hc:=zyw u (by omega)
  rw[← hu]at hc
  simp-implicitDefEqProofs[go_sem,c1.1,c1.2]
  refine Ret.use hc ?_
  simp-implicitDefEqProofs[go_sem,za0]
  exact hR _ _ _ (Ext.refl _ _) (Fz.eq rfl rfl)
 ·by_cases c:i<0
  ·have c2:¬0≤i:=by omega
   obtain⟨u,hu⟩:∃u:Nat,i=-(u:Int):=⟨i.natAbs,by omega⟩
   have hw:IntKind.u64.wrap (-IntKind.u64.wrap i)=(u:Int):=by rw[hu];exact zxh u (by omega) (by omega)
   have hit:Lib.itoa i=45::Lib.decDigits u:=by rw[Lib.itoa,if_pos c,hu];simp
   rw[hit]at hR
   have hu2:u<18446744073709551616:=by omega
   have n20:=znz u (by omega) hu2
   have n1:=Lib.nDigits_pos u
   have nlt:=zva u
   have hdd:=ztd u
   have hdl:=zpp (Lib.nDigits u) u
   simp-implicitDefEqProofs[go_sem,c,c2,hw]
   refine Ret.use (zwd u (by omega) hu2) ?_
   generalize Lib.nDigits u=n at *
   obtain⟨m,hm⟩:∃m,m=n+1:=⟨_,rfl⟩
   have w1:IntKind.i64.wrap (1+(n:Int))=(m:Int):=by rw[hm,zab] <;> omega
   have m24:m≤24:=by omega
   have m1:1≤m:=by omega
   have mn:m-1=n:=by omega
   simp-implicitDefEqProofs[go_sem,za0,m24,m1,mn,w1]
   refine zu4 _ _ nx u 1 n 23 0 289 false false (List.replicate 24 0) (by simp only[Tr.get_put,if_true];rfl) (by simp;omega) (by omega) nlt hu2 _ ?_
   have hbl:(List.take 1 (List.replicate 24 (0:UInt8))++(zbg n u++List.drop (1+n) (List.replicate 24 0)))=0::(zbg n u++List.replicate (23-n) 0):=by
    rw[List.drop_replicate,show 24-(1+n)=23-n by omega];rfl
   rw[hbl]
   have hsg:za3 (zam (0::(zbg n u++List.replicate (23-n) 0))) 0 [.int .u8 45]=zam (45::(zbg n u++List.replicate (23-n) 0)):=rfl
   have hln:(zam (0::(zbg n u++List.replicate (23-n) 0))).length=24:=by simp[zh3,hdl];omega
   have hln2:(zam (45::(zbg n u++List.replicate (23-n) 0))).length=24:=by simp[zh3,hdl];omega
   have htk:(zam (45::(zbg n u++List.replicate (23-n) 0))).take m=zam (45::zbg n u):=by
    rw[show zam (45::(zbg n u++List.replicate (23-n) 0))=zam (45::zbg n u)++zam (List.replicate (23-n) 0) by rw[← zgk];rfl]
    exact List.take_left' (by rw[zh3];simp[hdl];omega)
   rw[hdd]at hR
   generalize zam (45::(zbg n u++List.replicate (23-n) 0))=buf2 at hsg htk hln2
   generalize zam (0::(zbg n u++List.replicate (23-n) 0))=buf at hsg hln
   simp-implicitDefEqProofs[go_sem,za0,m24,m1,mn,w1,c,hsg,hln,hln2,htk]
   refine hR _ _ _ ?_ (Fz.eq rfl rfl)
   simp(disch:=omega)only[za6]
   exact Ext.refl _ _
  ·have c2:¬i<100:=by omega
   have c3:0≤i:=by omega
   obtain⟨u,hu⟩:∃u:Nat,i=(u:Int):=⟨i.toNat,by omega⟩
   have hw:IntKind.u64.wrap i=(u:Int):=by rw[hu];exact zxs _ (by omega) (by omega)
   have hit:Lib.itoa i=Lib.decDigits u:=by rw[Lib.itoa,if_neg c,hu];simp
   rw[hit]at hR
   have hu2:u<18446744073709551616:=by omega
   have n20:=znz u (by omega) hu2
   have n1:=Lib.nDigits_pos u
   have nlt:=zva u
   have hdd:=ztd u
   have hdl:=zpp (Lib.nDigits u) u
   simp-implicitDefEqProofs[go_sem,c,c2,c3,hw]
   refine Ret.use (zwd u (by omega) hu2) ?_
   generalize Lib.nDigits u=n at *
   obtain⟨m,hm⟩:∃m,m=n+1:=⟨_,rfl⟩
   have w1:IntKind.i64.wrap (1+(n:Int))=(m:Int):=by rw[hm,zab] <;> omega
   have m24:m≤24:=by omega
   have m1:1≤m:=by omega
   have mn:m-1=n:=by omega
   simp-implicitDefEqProofs[go_sem,za0,m24,m1,mn,w1]
   refine zu4 _ _ nx u 1 n 23 0 289 false false (List.replicate 24 0) (by simp only[Tr.get_put,if_true];rfl) (by simp;omega) (by omega) nlt hu2 _ ?_
   have hbl:(List.take 1 (List.replicate 24 (0:UInt8))++(zbg n u++List.drop (1+n) (List.replicate 24 0)))=0::(zbg n u++List.replicate (23-n) 0):=by
    rw[List.drop_replicate,show 24-(1+n)=23-n by omega];rfl
   rw[hbl]
   have hln:(zam (0::(zbg n u++List.replicate (23-n) 0))).length=24:=by simp[zh3,hdl];omega
   have htk:((zam (0::(zbg n u++List.replicate (23-n) 0))).drop 1).take n=zam (zbg n u):=by
    rw[show (zam (0::(zbg n u++List.replicate (23-n) 0))).drop 1=zam (zbg n u)++zam (List.replicate (23-n) 0) by rw[← zgk];rfl]
    exact List.take_left' (by rw[zh3];exact hdl)
   rw[hdd]at hR
   have hbd:1+n≤24:=by omega
   generalize zam (0::(zbg n u++List.replicate (23-n) 0))=buf at htk hln
   rw[List.drop_one]at htk
   simp-implicitDefEqProofs[go_sem,za0,m24,m1,mn,w1,c,hln,hbd,htk]
   refine hR _ _ _ ?_ (Fz.eq rfl rfl)
   simp(disch:=omega)only[za6]
   exact Ext.refl _ _
theorem zOh (i:Int)(h0:-9223372036854775808≤i)(h1:i≤9223372036854775807):Ret Tryz.prog cx 198 [.int .i64 i] (.bs ⟨(Lib.itoa i).toArray⟩):=by
 refine Ret.mk fun h nx R hR=>zaa (sz:=5) (rs:=[.tmp 2]) za4 zTe rfl rfl rfl (by simp) ?_
 simp-implicitDefEqProofs[go_sem]
 refine Ret.use (zJr i h0 h1) ?_
 simp-implicitDefEqProofs[go_sem,za0]
 exact hR _ _ _ (Ext.refl _ _) (Fz.eq rfl rfl)
theorem zri (i:Int)(h0:-9223372036854775808≤i)(h1:i≤9223372036854775807):Ret Tryz.prog cx 141 [.int .i64 i] (.bs ⟨(Lib.itoa i).toArray⟩):=by
 refine Ret.mk fun h nx R hR=>zaa (sz:=5) (rs:=[.tmp 2]) za4 zR1 rfl rfl rfl (by simp) ?_
 simp-implicitDefEqProofs[go_sem]
 refine Ret.use (zOh i h0 h1) ?_
 simp-implicitDefEqProofs[go_sem,za0]
 exact hR _ _ _ (Ext.refl _ _) (Fz.eq rfl rfl)
end
end Go.Ev
namespace Go.Ev
open Go.Proofs
noncomputable section
attribute [-go_sem] zaf zac
theorem zLc:cx.ft.get 294=some Tryz.f294:=za9 (by decide) (by kernel_rfl)
theorem zHn:cx.ft.get 293=some Tryz.f293:=za9 (by decide) (by kernel_rfl)
theorem zGx:cx.ft.get 292=some Tryz.f292:=za9 (by decide) (by kernel_rfl)
theorem zLb:cx.ft.get 260=some Tryz.f260:=za9 (by decide) (by kernel_rfl)
theorem zBm (u v:Bool)(l m:List Int)(hl:l.length≤1000000000):Ret Tryz.prog cx 294 [.fz 1 u (za5 l),.fz 1 v (za5 m)] (.bool (decide (l=m))):=by
 refine Ret.mk fun h nx R hR=>zaa (sz:=26) (rs:=[.tmp 4]) za4 zLc rfl rfl rfl (by simp) ?_
 by_cases hlen:l.length=m.length
 ·simp-implicitDefEqProofs[go_sem,hlen]
  refine zap (fun mm st=>∃tm k,st=.mk tm h nx []∧mm=l.length-k∧k≤l.length∧tm.get 0=some (.fz 1 u (za5 l))∧tm.get 1=some (.fz 1 v (za5 m))∧tm.get 12=some (.int .i64 (l.length:Int))∧tm.get 13=some (.int .i64 (k:Int))∧RowKit.Hid (l.take k=m.take k)) ⟨l.length,_,0,rfl,by simp,by simp,?_⟩ ?_
  ·simp-implicitDefEqProofs[go_sem,hlen]
   exact Lib.hid trivial
  ·rintro mm st ⟨tm,k,rfl,rfl,hk,t0,t1,t12,t13,hv⟩ J hJ
   refine zag za4 _ ?_
   by_cases hlt:k<l.length
   ·have hlt':k<m.length:=by omega
    simp-implicitDefEqProofs[go_sem,t0,t1,t12,t13,hlt,hlt']
    refine zbq mixed za4 zbe [] [] [] (by kernel_rfl) ?_
    simp-implicitDefEqProofs[go_sem,t0,t1,t12,t13,hlt,hlt']
    refine zm6 (fun hb=>?_) (fun hb=>?_)
    ·simp at hb
     simp-implicitDefEqProofs[go_sem]
     refine hR _ _ _ (Ext.refl _ _) (Fz.eq rfl ?_)
     have:¬l=m:=fun e=>hb (by subst e;rfl)
     simp[this]
    ·simp at hb
     simp-implicitDefEqProofs[go_sem,t0,t1,t12,t13]
     refine hJ (l.length-(k+1)) _ (by omega) ⟨_,k+1,rfl,rfl,by omega,?_⟩
     simp(disch:=omega) [go_sem,t0,t1,t12,t13,zab]
     refine Lib.hid ?_
     rw[List.take_succ_eq_append_getElem hlt,List.take_succ_eq_append_getElem hlt',hv.out,hb]
   ·have:=hv.out
    rw[List.take_of_length_le (by omega),List.take_of_length_le (by omega)]at this
    simp-implicitDefEqProofs[go_sem,t0,t1,t12,t13,hlt]
    refine hR _ _ _ (Ext.refl _ _) (Fz.eq rfl ?_)
    simp[this]
 ·have hi:¬(l.length:Int)=(m.length:Int):=by omega
  simp-implicitDefEqProofs[go_sem,hlen,hi]
  refine hR _ _ _ (Ext.refl _ _) (Fz.eq rfl ?_)
  have:¬l=m:=fun e=>hlen (by rw[e])
  simp[this]
def zhh (a b:Nd):Bool:=decide (a.fact=b.fact) && (decide (a.leaf=b.leaf) && (decide (a.cuts=b.cuts) && decide (a.kids=b.kids)))
set_option maxHeartbeats 2000000 in
theorem zKd (a b:Nd)(h1:a.cuts.length≤1000000000)(h2:a.kids.length≤1000000000):Ret Tryz.prog cx 293 [.agg a.cs,.agg b.cs] (.bool (zhh a b)):=by
 obtain⟨fa,ca,ka,la⟩:=a
 obtain⟨fb,cb,kb,lb⟩:=b
 simp only at h1 h2
 have c1:=Classical.em (fa=fb)
 have c2:=Classical.em (ca=cb)
 cases la <;> cases lb <;> rcases c1 with c1 |c1 <;> rcases c2 with c2 |c2
 all_goals
  refine Ret.mk fun h nx R hR=>zaa (sz:=31) (rs:=[.tmp 4]) za4 zHn rfl rfl rfl (by simp) ?_
  have E:∀x y,Ext nx h ((h.put nx x).put (nx+1) y):=fun x y=>((Ext.refl nx h).put (Nat.le_refl _) _).put (by omega) _
  simp-implicitDefEqProofs[go_sem,Nd.cs,c1]
 all_goals first
  |(refine hR _ _ _ (E _ _) (Fz.eq rfl ?_)
    simp[zhh,c1,c2])
  |(refine Ret.use (zBm false false ca cb h1) ?_
    simp-implicitDefEqProofs[go_sem,za0,c2])
 all_goals first
  |(refine hR _ _ _ (E _ _) (Fz.eq rfl ?_)
    simp[zhh,c1,c2])
  |(refine Ret.use (zBm false false ka kb h2) ?_
    simp-implicitDefEqProofs[go_sem,za0]
    refine hR _ _ _ (E _ _) (Fz.eq rfl ?_)
    simp[zhh,c1,c2])
def zeb:List Nd→List Nd→Bool
 |[],[]=>true
 |a::l,b::m=>zhh a b && zeb l m
 |_,_=>false
theorem zEs:∀{l m:List Nd},¬l.length=m.length→zeb l m=false
 |[],[],h=>absurd rfl h
 |[],_::_,_=>rfl
 |_::_,[],_=>rfl
 |a::l,b::m,h=>by
  have:=zEs (l:=l) (m:=m) (by simpa using h)
  simp[zeb,this]
theorem zwz:∀{l m:List Nd},zeb l m=true↔l=m
 |[],[]=>by simp[zeb]
 |[],_::_=>by simp[zeb]
 |_::_,[]=>by simp[zeb]
 |a::l,b::m=>by
  have:=zwz (l:=l) (m:=m)
  cases a;cases b
  simp[zeb,zhh,this,and_assoc,and_comm,and_left_comm]
theorem zSf (u v:Bool)(l m:List Nd)(hl:l.length≤1000000000)(hp:∀a∈l,∀b∈m,Ret Tryz.prog cx 293 [.agg a.cs,.agg b.cs] (.bool (zhh a b))):Ret Tryz.prog cx 292 [.fz 4 u (zal l),.fz 4 v (zal m),.func 293 [] []] (.bool (zeb l m)):=by
 refine Ret.mk fun h nx R hR=>zaa (sz:=32) (rs:=[.tmp 6]) za4 zGx rfl rfl rfl (by simp) ?_
 by_cases hlen:l.length=m.length
 ·simp-implicitDefEqProofs[go_sem,hlen]
  refine zap (fun mm st=>∃tm h' nx' k,st=.mk tm h' nx' []∧mm=m.length-k∧k≤m.length∧tm.get 1=some (.fz 4 v (zal m))∧tm.get 2=some (.func 293 [] [])∧tm.get 15=some (.fz 4 u (zal l))∧tm.get 16=some (.int .i64 (m.length:Int))∧tm.get 17=some (.int .i64 (k:Int))∧Ext nx h h'∧nx≤nx'∧RowKit.Hid (zeb l m=zeb (l.drop k) (m.drop k))) ⟨m.length,_,_,_,0,rfl,by simp,by simp,?_⟩ ?_
  ·simp-implicitDefEqProofs[go_sem]
   exact⟨Ext.refl _ _,Lib.hid trivial⟩
  ·rintro mm st ⟨tm,h',nx',k,rfl,rfl,hk,t1,t2,t15,t16,t17,he,hn,hv⟩ J hJ
   refine zag za4 _ ?_
   by_cases hlt:k<m.length
   ·have hlt':k<l.length:=by omega
    have HD:=Lib.hid (show zeb (l.drop k) (m.drop k)=(zhh l[k] m[k] && zeb (l.drop (k+1)) (m.drop (k+1))) by
     rw[List.drop_eq_getElem_cons hlt,List.drop_eq_getElem_cons hlt',zeb])
    simp-implicitDefEqProofs[go_sem,t1,t2,t15,t16,t17,hlt,hlt']
    refine Ret.use (hp _ (List.getElem_mem hlt') _ (List.getElem_mem hlt)) ?_
    by_cases hs:zhh l[k] m[k]=true
    ·simp-implicitDefEqProofs[go_sem,za0,t1,t2,t15,t16,t17,hs]
     refine hJ (m.length-(k+1)) _ (by omega) ⟨_,_,_,k+1,rfl,rfl,by omega,?_⟩
     simp(disch:=omega) [go_sem,t1,t2,t15,t16,t17,zab]
     have hd:=HD.out
     rw[hs,Bool.true_and]at hd
     refine⟨((((he.put (by omega) _).put (by omega) _).put (by omega) _).put (by omega) _),by omega,Lib.hid (by rw[hv.out,hd])⟩
    ·have hs':zhh l[k] m[k]=false:=by simpa using hs
     simp-implicitDefEqProofs[go_sem,za0,t1,t2,t15,t16,t17,hs']
     refine hR _ _ _ ((((he.put (by omega) _).put (by omega) _).put (by omega) _).put (by omega) _) (Fz.eq rfl ?_)
     rw[hv.out,HD.out,hs',Bool.false_and]
   ·simp-implicitDefEqProofs[go_sem,t1,t2,t15,t16,t17,hlt]
    refine hR _ _ _ he (Fz.eq rfl ?_)
    rw[hv.out,List.drop_of_length_le (by omega),List.drop_of_length_le (by omega),zeb]
 ·have hi:¬(l.length:Int)=(m.length:Int):=by omega
  simp-implicitDefEqProofs[go_sem,hlen,hi]
  refine hR _ _ _ (Ext.refl _ _) (Fz.eq rfl ?_)
  rw[zEs hlen]
theorem zPk (u v:Bool)(l m:List Nd)(hl:l.length≤1000000000)(h1:∀a∈l,a.cuts.length≤1000000000∧a.kids.length≤1000000000):Ret Tryz.prog cx 260 [.agg [.fz 4 u (zal l)],.agg [.fz 4 v (zal m)]] (.bool (zeb l m)):=by
 refine Ret.mk fun h nx R hR=>zaa (sz:=10) (rs:=[.tmp 4]) za4 zLb rfl rfl rfl (by simp) ?_
 have E:∀x y,Ext nx h ((h.put nx x).put (nx+1) y):=fun x y=>((Ext.refl nx h).put (Nat.le_refl _) _).put (by omega) _
 simp-implicitDefEqProofs[go_sem]
 refine Ret.use (zSf u v l m hl fun a ha b _=>zKd a b (h1 a ha).1 (h1 a ha).2) ?_
 simp-implicitDefEqProofs[go_sem,za0]
 exact hR _ _ _ (E _ _) (Fz.eq rfl rfl)
theorem zJu:cx.ft.get 149=some Tryz.f149:=za9 (by decide) (by kernel_rfl)
theorem zkg (l:List Nd):(l.flatMap Nd.cs).length=l.length * 4:=by
 induction l with
 |nil=>rfl
 |cons x l ih=>simp[Nd.cs,ih];omega
theorem zwt:∀l:List Nd,zba (l.flatMap Nd.cs)=true
 |[]=>rfl
 |x::l=>by
  have h1:=zwt l
  simp[Nd.cs,zba,AV.one]
  exact h1
theorem zD3:∀l:List Nd,zah (l.flatMap Nd.cs)=true
 |[]=>rfl
 |x::l=>by
  have h1:=zD3 l
  simp[Nd.cs,zah,plain,zhw,h1]
theorem zpz:∀(l:List Nd) (k:Nat)(x:Nd),l[k]?=some x→((l.flatMap Nd.cs).drop (k * 4)).take 4=x.cs
 |[],k,x,h=>by simp at h
 |y::l,0,x,h=>by
  simp at h
  subst h
  simp[Nd.cs]
 |y::l,k+1,x,h=>by
  have:=zpz l k x (by simpa using h)
  rw[show (k+1) * 4=k * 4+4 by omega]
  simp[Nd.cs]at this ⊢
  exact this
theorem zB6:∀(l:List Nd) (k:Nat)(x:Nd)(b:Bool),l[k]?=some x→za3 (l.flatMap Nd.cs) (k * 4+3) [.bool b]=(l.set k ⟨x.fact,x.cuts,x.kids,b⟩).flatMap Nd.cs
 |[],k,x,b,h=>by simp at h
 |y::l,0,x,b,h=>by
  simp at h
  subst h
  simp[Nd.cs,za3]
 |y::l,k+1,x,b,h=>by
  have:=zB6 l k x b (by simpa using h)
  rw[show (k+1) * 4+3=(k * 4+3)+4 by omega]
  rw[List.set_cons_succ,List.flatMap_cons,List.flatMap_cons,← this]
  simp[Nd.cs,za3]
theorem zEk:∀l:List Nd,zfr 4 (zal l) (l.flatMap Nd.cs)
 |[]=>rfl
 |x::l=>⟨x.cs,l.flatMap Nd.cs,by simp,rfl,by cases x;rfl,.inl rfl,zEk l⟩
theorem fzN {g:Tr ABlk}{nx b:Nat}{s:List Nd}{cp esz:Nat}{op opn:Bool}(hb:nx≤b)(hg:g.get b=some (bx 154 (s.flatMap Nd.cs) opn esz)):Fz g nx (.sl b 0 s.length cp op) (.fz 4 false (zal s)):=
 .slz b 0 _ cp op 154 _ _ opn esz 4 (s.flatMap Nd.cs) (s.flatMap Nd.cs) (zal s) hb hg (by simp) (fun j hj=>by rw[Nat.zero_add,zbt]) (FzL.same _ (zD3 s)) (zEk s) (zyp s)
theorem zNn (l:List Nd):(zal l).flatMap AV.cells=l.flatMap Nd.cs:=by
 induction l with
 |nil=>rfl
 |cons x l ih=>
  rw[show zal (x::l)=.agg x.cs::zal l from rfl,List.flatMap_cons,List.flatMap_cons,ih]
  rfl
def zcc (n:Nd):Nd:=if n.kids=[] then ⟨n.fact,n.cuts,n.kids,!n.leaf⟩ else n
set_option maxHeartbeats 1000000 in
theorem zJs (full:Bool)(n0:Nd)(ns:List Nd)(hl:ns.length<1000000):Ret Tryz.prog cx 149 [.agg [.fz 4 full (zal (n0::ns))]] (.agg [.fz 4 false (zal ((n0::ns).map zcc))]):=by
 refine Ret.mk fun h nx R hR=>zaa (sz:=32) (rs:=[.cell 2 92]) za4 zJu rfl rfl rfl (by simp) ?_
 have hcl:=zMy full (.agg n0.cs) (zal ns)
 rw[show (AV.agg n0.cs)::zal ns=zal (n0::ns) from rfl,zNn,zyp,show ns.length+1=(n0::ns).length from rfl]at hcl
 have hgl:(n0::ns).length≤1000000:=by simp;omega
 have hgp:0<(n0::ns).length:=by simp
 generalize (n0::ns)=g at *
 simp-implicitDefEqProofs[go_sem]
 refine hcl (zwt g) (by omega) _ _ _ fun g1 q ny e1 q1 q2 gq=>?_
 have gx:g1.get (nx+1)=some (bx 92 [.sl0] false 0):=by rw[e1 _ (by omega)];simp[go_sem]
 have E1:Ext nx h g1:=by
  intro k hk
  rw[e1 k (by omega)]
  simp[go_sem,show ¬k=nx by omega,show ¬k=nx+1 by omega]
 have nq:¬q=ny:=by omega
 simp-implicitDefEqProofs[go_sem,za0]
 refine zap (fun mm st=>∃tm h' nx' k cur,st=.mk tm h' nx' []∧mm=g.length-k∧k≤g.length∧tm.get 2=some (.ptr (nx+1) 0)∧tm.get 3=some (.ptr ny 0)∧tm.get 11=some (.sl q 0 g.length 0 true)∧tm.get 12=some (.int .i64 (g.length:Int))∧tm.get 13=some (.int .i64 (k:Int))∧h'.get q=some (bx 154 (cur.flatMap Nd.cs) true 4)∧h'.get ny=some (bx 92 [.sl q 0 g.length 0 true] false 0)∧h'.get (nx+1)=some (bx 92 [.sl0] false 0)∧Ext nx h h'∧ny<nx'∧RowKit.Hid (cur.length=g.length∧∀j,cur[j]?=if j<k then (g[j]?).map zcc else g[j]?)) ⟨g.length,_,_,_,0,g,rfl,by simp,by simp,?_⟩ ?_
 ·simp-implicitDefEqProofs[go_sem,nq,gq,gx,show ¬nx+1=ny by omega]
  refine⟨?_,Lib.hid trivial⟩
  simp(disch:=omega)only[za6]
  exact E1
 ·rintro mm st ⟨tm,h',nx',k,cur,rfl,rfl,hk,t2,t3,t11,t12,t13,gq',gn',gx',he,hn',hv⟩ J hJ
  refine zag za4 _ ?_
  obtain⟨v1,v2⟩:=hv.out
  have m1:¬q=nx':=by omega
  have m2:¬ny=nx':=by omega
  have m3:¬nx+1=nx':=by omega
  have m4:¬nx'=q:=by omega
  have m5:¬ny=q:=by omega
  have m6:¬nx+1=q:=by omega
  by_cases hlt:k<g.length
  ·have a0:cur[k]?=some g[k]:=by rw[v2 k,if_neg (by omega)];simp[hlt]
   have a1:=zpz cur k _ a0
   have a2:=zB6 cur k _ (!(g[k]).leaf) a0
   have a3:(cur.flatMap Nd.cs).length=cur.length * 4:=zkg cur
   have hnext:∀cur',cur'=cur.set k (zcc g[k])→(cur'.length=g.length∧∀j,cur'[j]?=if j<k+1 then (g[j]?).map zcc else g[j]?):=by
    rintro _ rfl
    refine⟨by simp[v1],fun j=>?_⟩
    by_cases hj:j=k
    ·subst hj
     rw[List.getElem?_set_self (by omega),if_pos (by omega)]
     simp[hlt]
    ·rw[List.getElem?_set_ne (by omega),v2 j]
     by_cases hj2:j<k
     ·rw[if_pos hj2,if_pos (by omega)]
     ·rw[if_neg hj2,if_neg (by omega)]
   have hk4:k * 4+4≤(cur.flatMap Nd.cs).length:=by omega
   have hk5:k * 4+3+1≤(cur.flatMap Nd.cs).length:=by omega
   clear v2 hv
   obtain⟨L,hL⟩:∃L,L=cur.flatMap Nd.cs:=⟨_,rfl⟩
   rw[← hL]at a1 a2 hk4 hk5 gq'
   generalize hgk:g[k]=x at a1 a2 hnext
   by_cases c1:x.kids=[]
   ·have hnx:cur.set k (zcc x)=cur.set k ⟨x.fact,x.cuts,x.kids,!x.leaf⟩:=by rw[zcc,if_pos c1]
    have HN:=Lib.hid (hnext _ hnx.symm)
    clear hnext
    simp only[Nd.cs,c1]at a1
    simp-implicitDefEqProofs[go_sem,t2,t3,t11,t12,t13,hlt,gq',gn',gx',m1,m2,m3,m4,m5,m6,hk4,hk5,a1,c1]
    refine hJ (g.length-(k+1)) _ (by omega) ⟨_,_,_,k+1,cur.set k ⟨x.fact,x.cuts,x.kids,!x.leaf⟩,rfl,rfl,by omega,?_⟩
    simp(disch:=omega) [go_sem,t2,t3,t11,t12,t13,gn',gx',m1,m2,m3,m4,m5,m6,zab]
    refine⟨by rw[a2],?_,by omega,by first |exact Lib.hid ⟨v1,HN.out.2⟩ |exact Lib.hid HN.out.2⟩
    simp(disch:=omega)only[za6]
    exact he
   ·have hnx:cur.set k (zcc x)=cur:=by
     rw[zcc,if_neg c1]
     apply List.ext_getElem?
     intro j
     by_cases hj:j=k
     ·subst hj
      rw[List.getElem?_set_self (by omega),a0,hgk]
     ·rw[List.getElem?_set_ne (by omega)]
    have HN:=Lib.hid (hnext _ hnx.symm)
    clear hnext
    have ql:¬x.kids.length=0:=fun e=>c1 (List.eq_nil_of_length_eq_zero e)
    simp only[Nd.cs]at a1
    simp-implicitDefEqProofs[go_sem,t2,t3,t11,t12,t13,hlt,gq',gn',gx',m1,m2,m3,m4,m5,m6,hk4,hk5,a1,c1,ql]
    refine hJ (g.length-(k+1)) _ (by omega) ⟨_,_,_,k+1,cur,rfl,rfl,by omega,?_⟩
    simp(disch:=omega) [go_sem,t2,t3,t11,t12,t13,gq',gn',gx',m1,m2,m3,m4,m5,m6,zab,hL]
    refine⟨?_,by omega,by first |exact HN |exact Lib.hid HN.out.2⟩
    simp(disch:=omega)only[za6]
    exact he
  ·have hc:cur=g.map zcc:=by
    apply List.ext_getElem?
    intro j
    rw[v2 j]
    by_cases hj:j<k
    ·rw[if_pos hj];simp
    ·rw[if_neg hj,List.getElem?_eq_none (by omega),List.getElem?_eq_none (by simp;omega)]
   simp-implicitDefEqProofs[go_sem,t2,t3,t11,t12,t13,hlt,gq',gn',gx',m5,m6,za3]
   refine hR _ _ _ ?_ ?_
   ·simp(disch:=omega)only[za6]
    exact he
   ·refine .agg _ _ (.cons _ _ _ _ ?_ .nil)
    have hcl2:g.length=(g.map zcc).length:=by simp
    rw[hcl2]
    refine fzN (opn:=true) (esz:=4) (by omega) ?_
    rw[← hc]
    simp[go_sem,gq',show ¬q=nx+1 by omega]
def ziq:List ByteArray→Nat→List (AV×AV×Nat)
 |[],_=>[]
 |x::l,n=>(.bs x,.int .i64 (n:Int),n)::ziq l (n+1)
theorem zxk (x:ByteArray):∀(l:List ByteArray) (n:Nat),ziq l n++[(.bs x,.int .i64 ((n+l.length:Nat):Int),n+l.length)]=ziq (l++[x]) n
 |[],n=>rfl
 |y::l,n=>by
  have:=zxk x l (n+1)
  simp only[ziq,List.cons_append,List.length_cons]
  rw[← this,show n+(l.length+1)=n+1+l.length by omega]
def zjm (x:ByteArray):List ByteArray→Nat→Option (Nat×AV)
 |[],_=>none
 |y::l,i=>if x=y then some (i,.int .i64 (i:Int)) else zjm x l (i+1)
theorem zxg (x:ByteArray):∀(l:List ByteArray) (n:Nat),ze8 .string (.bs x) (ziq l n) n=some (zjm x l n)
 |[],n=>rfl
 |y::l,n=>by
  rw[ziq,zmx,zjm]
  by_cases e:x=y
  ·simp[zdz,e]
  ·simp[zdz,e,fN_eq,zxg x l (n+1)]
@[go_sem] theorem zW2 (x:ByteArray)(l:List ByteArray):ze8 .string (.bs x) (ziq l 0) 0=some (zjm x l 0):=zxg x l 0
theorem zBz {x:ByteArray}:∀{l:List ByteArray}(i:Nat),¬x∈l→zjm x l i=none
 |[],_,_=>rfl
 |y::l,i,h=>by
  simp at h
  rw[zjm,if_neg h.1,zBz (i+1) h.2]
theorem zCy {x:ByteArray}:∀{l:List ByteArray}(i:Nat),x∈l→∃j,l[j]?=some x∧zjm x l i=some (i+j,.int .i64 ((i+j:Nat):Int))
 |[],_,h=>by cases h
 |y::l,i,h=>by
  rw[zjm]
  by_cases e:x=y
  ·exact⟨0,by simp[e],by simp[e]⟩
  ·rw[if_neg e]
   have hm:x∈l:=by
    rcases List.mem_cons.1 h with h1 |h1
    ·exact absurd h1 e
    ·exact h1
   obtain⟨j,h1,h2⟩:=zCy (i+1) hm
   exact⟨j+1,by simpa using h1,by rw[h2,show i+1+j=i+(j+1) by omega]⟩
theorem zTx:cx.ft.get 194=some Tryz.f194:=za9 (by decide) (by kernel_rfl)
def zlr (O:Nat→Prop)(h:Tr ABlk) (nx p:Nat)(a b:AV)(ks:List ByteArray)(L:List Nd):Prop:=ks.length=L.length∧O p∧p<nx∧
 ((L=[]∧a=.sl0∧b=.map0)∨(L≠[]∧∃m q,O m∧O q∧m<nx∧q<nx∧m≠p∧q≠p∧q≠m∧b=.map m∧h.get m=some (.map (ziq ks 0) ks.length)∧a=.sl q 0 L.length 0 true∧h.get q=some (bx 154 (L.flatMap Nd.cs) true 4)))
set_option maxHeartbeats 1000000 in
theorem zGp (O:Nat→Prop)(h:Tr ABlk) (nx p T:Nat)(a b:AV)(rest:List AV)(ks:List ByteArray)(L:List Nd)(key:ByteArray)(n:Nd)(hp:h.get p=some (bx T (a::b::rest) false 0))(hU:zlr O h nx p a b ks L)(hL:L.length<1000000)(R:AV→Tr ABlk→Nat→Prop)
  (hR1:∀(j:Nat) g ny,ks[j]?=some key→Ext nx h g→nx≤ny→R (.int .i64 (j:Int)) g ny)
  (hR2:∀g ny a' b',¬key∈ks→nx≤ny→g.get p=some (bx T (a'::b'::rest) false 0)→zlr (fun k=>O k∨nx≤k) g ny p a' b' (ks++[key]) (L++[n])→(∀k,k<nx→¬O k→g.get k=h.get k)→R (.int .i64 (L.length:Int)) g ny):
  za7 Tryz.prog cx 194 [.ptr p 0,.bs key,.agg n.cs] h nx R:=by
 refine zaa (sz:=51) (rs:=[.tmp 6]) za4 zTx rfl rfl rfl (by simp) ?_
 obtain⟨u1,u2,u3,hU⟩:=hU
 have n1:¬p=nx:=by omega
 rcases hU with⟨rfl,rfl,rfl⟩ |⟨l0,m,q,o1,o2,m1,q1,m2,q2,q3,rfl,gm,rfl,gq⟩
 ·simp at u1
  subst u1
  have z1:¬p=nx+1:=by omega
  have z2:¬nx+1=p:=by omega
  have z3:¬nx=p:=by omega
  simp-implicitDefEqProofs[go_sem,hp,n1,z1,z2,z3,zac,ze8,za3]
  refine zbq mixed za4 zbe [6,7,10] [] [(4,6)] (by kernel_rfl) ?_
  have z4:¬p=nx+1+1:=by omega
  have z5:¬nx=nx+1+1:=by omega
  simp-implicitDefEqProofs[go_sem,hp,n1,z1,z2,z3,z4,z5,Nd.cs,za3]
  refine hR2 _ _ _ _ (by simp) (by omega) (by rw[Tr.get_put,if_pos rfl]) ?_ ?_
  ·refine⟨rfl,.inl u2,by omega,.inr ⟨by simp,nx+1,_,.inr (by omega),.inr ?_,by omega,?_,by omega,?_,?_,rfl,?_,rfl,?_⟩⟩
   all_goals first |omega |skip
   ·simp[go_sem,z2,ziq]
   ·simp[go_sem,Nd.cs,show ¬nx+1+1=p by omega]
  ·intro k hk1 hk2
   have k1:¬k=p:=fun e=>hk2 (e ▸ u2)
   simp[go_sem,k1,show ¬k=nx by omega,show ¬k=nx+1 by omega,show ¬k=nx+1+1 by omega]
 ·by_cases hk:key∈ks
  ·obtain⟨j,j1,j2⟩:=zCy 0 hk
   simp only[Nat.zero_add]at j2
   have m3:¬m=nx:=by omega
   simp-implicitDefEqProofs[go_sem,hp,n1,gm,m3,j2,zac]
   refine hR1 j _ _ j1 ?_ ?_
   ·simp(disch:=omega)only[za6]
    exact Ext.refl _ _
   ·omega
  ·have j2:=zBz 0 hk
   have m3:¬m=nx:=by omega
   have m4:¬nx=m:=by omega
   have m5:¬p=m:=by omega
   simp-implicitDefEqProofs[go_sem,hp,n1,gm,m3,m4,m5,j2,zac]
   refine zbq mixed za4 zbe [6,7,10] [] [(4,6)] (by kernel_rfl) ?_
   have z1:¬p=nx+1:=by omega
   have z2:¬q=nx+1:=by omega
   have z3:¬q=nx:=by omega
   have z4:¬p=q:=by omega
   have z5:¬nx=q:=by omega
   have z6:¬nx+1=q:=by omega
   have z7:¬p=nx+1+1:=by omega
   have z8:¬nx=nx+1+1:=by omega
   have fl:=zkg L
   have fo:=zwt L
   have hle:L.length+1≤16777216:=by omega
   simp-implicitDefEqProofs[go_sem,hp,n1,gq,m3,m4,m5,q3,z1,z2,z3,z4,z5,z6,z7,z8,fl,fo,hle,Nd.cs,za3]
   refine hR2 _ _ _ _ hk (by omega) (by rw[Tr.get_put,if_pos rfl]) ?_ ?_
   ·refine⟨by simp[u1],.inl u2,by omega,.inr ⟨by simp,m,_,.inl o1,.inr ?_,by omega,?_,m2,?_,?_,rfl,?_,by simp;rfl,?_⟩⟩
    all_goals first |omega |skip
    ·simp[go_sem,m3,m4,m5,show ¬m=p from m2,show ¬m=nx+1 by omega,show ¬m=q by omega]
     rw[← zxk]
     simp[u1]
    ·simp[go_sem,Nd.cs,show ¬nx+1=p by omega]
   ·intro k hk1 hk2
    have k1:¬k=p:=fun e=>hk2 (e ▸ u2)
    have k2:¬k=m:=fun e=>hk2 (e ▸ o1)
    have k3:¬k=q:=fun e=>hk2 (e ▸ o2)
    simp[go_sem,k1,k2,k3,show ¬k=nx by omega,show ¬k=nx+1 by omega]
end
end Go.Ev
namespace Go.Ev
open Go.Proofs
noncomputable section
attribute [-go_sem] zaf zac zay
theorem zHb:cx.ft.get 195=some Tryz.f195:=za9 (by decide) (by kernel_rfl)
def zh0:List Int→List UInt8
 |[]=>[]
 |k::l=>Lib.itoa k++44::zh0 l
def zAp (n:Nd):List UInt8:=(if n.leaf then 49 else 48)::(Lib.itoa n.fact++(58::zh0 n.cuts++(58::zh0 n.kids)))
def zb3 (n:Nd):ByteArray:=⟨(zAp n).toArray⟩
def I64 (i:Int):Prop:=-9223372036854775808≤i∧i≤9223372036854775807
def NdI (n:Nd):Prop:=I64 n.fact∧(∀x∈n.cuts,I64 x)∧(∀x∈n.kids,I64 x)∧n.cuts.length≤100000∧n.kids.length≤100000
theorem zid (i:Int)(h:I64 i):(Lib.itoa i).length≤21:=by
 obtain⟨h0,h1⟩:=h
 rw[Lib.itoa]
 by_cases c:i<0
 ·rw[if_pos c]
  have:i.natAbs<18446744073709551616:=by omega
  have:=znz i.natAbs (by omega) this
  simp[Lib.decDigits_length]
  omega
 ·rw[if_neg c,Lib.decDigits_length]
  rcases Nat.eq_zero_or_pos i.toNat with e |e
  ·rw[e,Lib.nDigits_small (by omega)];omega
  ·have:=znz i.toNat e (by omega)
   omega
@[go_sem] theorem ye4 (e:TypeId) (size b:Nat)(z:Option AV) (x:Nat) (s:Nat)(y:Bool)(fs:List (Nat×Nat×Bool)) (i o l cp:Nat)(opn:Bool)(k:IntKind)(h:Tr ABlk) (nx:Nat)(hn:1<l):
  zd3 (.mk (.slice e) size b z ((x,s,y)::fs)) (.sl i o l cp opn) (.int k 1) h nx=.val (.ptr i (o+s)) h nx:=by
 have:=zD6 e size b z x s y fs i o l cp opn k 1 h nx hn
 simpa using this
theorem zgv.mono {h g:Tr ABlk}{nx ny q:Nat}{v:AV}{l:List UInt8}(o:zgv h nx q v l)(e:g.get q=h.get q)(hn:nx≤ny):zgv g ny q v l:=by
 obtain⟨h1,h2⟩:=o
 exact⟨by omega,by rw[e];exact h2⟩
def zhn (cuts kids:List Int):Nat→List UInt8
 |0=>58::zh0 cuts++58::zh0 kids
 |1=>58::zh0 kids
 |_=>[]
set_option maxHeartbeats 4000000 in
theorem zQa (n:Nd)(hn:NdI n):Ret Tryz.prog cx 195 [.agg n.cs] (.bs (zb3 n)):=by
 refine Ret.mk fun h nx R hR=>zaa (sz:=48) (rs:=[.tmp 2]) za4 zHb rfl rfl rfl (by simp) ?_
 obtain⟨f,cuts,kids,leaf⟩:=n
 obtain⟨hf,hc,hk,hlc,hlk⟩:=hn
 simp only at hf hc hk hlc hlk
 have a1:¬nx=nx+1:=by omega
 obtain⟨lf,hlf⟩:∃lf:UInt8,lf=if leaf then 49 else 48:=⟨_,rfl⟩
 have hkey:zb3 ⟨f,cuts,kids,leaf⟩=⟨(([lf]++Lib.itoa f)++zhn cuts kids 0).toArray⟩:=by
  simp[zb3,zAp,zhn,hlf]
 rw[hkey]at hR
 have hil:=zid f hf
 obtain⟨hf0,hf1⟩:=hf
 cases leaf
 all_goals
  simp at hlf
  have w1:IntKind.u8.wrap 49=49:=rfl
  simp-implicitDefEqProofs[go_sem,Nd.cs,za3,a1,w1]
  refine zyb _ _ (nx+1) _ [lf] f ⟨by omega,.inr ⟨by simp,by simp[go_sem,zam,hlf]⟩⟩ (by simp) hf0 hf1 _ fun g ny q b1 b2 b3 b4=>?_
  have E1:Ext nx h g:=by
   intro k hk
   rw[b3 k (by omega) (by omega)]
   simp[go_sem,show ¬k=nx by omega,show ¬k=nx+1 by omega]
  obtain⟨lv,gn⟩:∃lv,g.get nx=some (bx 154 [.int .i64 f,.fz 1 false (za5 cuts),.fz 1 false (za5 kids),.bool lv] false 0):=by
   rw[b3 nx (by omega) (by omega)]
   simp[go_sem,a1]
  have hacc:([lf]++Lib.itoa f).length≤30:=by simp;omega
  generalize hA:[lf]++Lib.itoa f=A at b4 hR hacc ⊢
  have b5:¬nx=ny:=by omega
  simp-implicitDefEqProofs[go_sem,za0,gn,b5,za3]
  refine zap (fun mm st=>∃tm h' nx' k acc q v,st=.mk tm h' nx' []∧mm=2-k∧k≤2∧tm.get 24=some (.sl ny 0 2 2 false)∧tm.get 25=some (.int .i64 2)∧tm.get 26=some (.int .i64 (k:Int))∧tm.get 3=some v∧zgv h' nx' q v acc∧nx≤q∧q≠ny∧ny<nx'∧h'.get ny=some (bx 40 [.fz 1 false (za5 cuts),.fz 1 false (za5 kids)] false 0)∧Ext nx h h'∧acc.length≤30+k * 2200001∧RowKit.Hid (A++zhn cuts kids 0=acc++zhn cuts kids k)) ⟨2,_,_,_,0,A,q,.sl q 0 A.length 0 true,rfl,by simp,by simp,?_⟩ ?_
  ·simp-implicitDefEqProofs[go_sem]
   refine⟨b4.mono (by simp[go_sem,show ¬q=ny by have:=b4.1;omega]) (by omega),by omega,by have:=b4.1;omega,?_,hacc,Lib.hid trivial⟩
   simp(disch:=omega)only[za6]
   exact E1
  ·rintro mm st ⟨tm,h',nx',k,acc,q',v',rfl,rfl,hk2,t24,t25,t26,t3,ho,hq1,hq2,hny,gb,he,hal,hv⟩ J hJ
   refine zag za4 _ ?_
   by_cases hlt:k<2
   ·obtain⟨hq0,hq⟩:=ho
    have m1:¬ny=nx':=by omega
    have m2:¬q'=nx':=by omega
    have fo:=zhl acc
    have hz3:acc.length+1≤16777216:=by omega
    have hn2:¬ny=q':=fun e=>hq2 e.symm
    have hn3:¬ny=nx'+1:=by omega
    obtain⟨L,rst,hL,hLk,hI,hll,hx⟩:∃(L:List Int) (rst:List UInt8),zhn cuts kids k=58::zh0 L++rst∧zhn cuts kids (k+1)=rst∧(∀x∈L,I64 x)∧L.length≤100000∧∀hh,[AV.fz 1 false (za5 cuts),AV.fz 1 false (za5 kids)][k]'hh=AV.fz 1 false (za5 L):=by
     rcases (by omega:k=0∨k=1) with rfl |rfl
     ·exact⟨cuts,_,rfl,rfl,hc,hlc,fun _=>rfl⟩
     ·exact⟨kids,[],by simp[zhn],rfl,hk,hlk,fun _=>rfl⟩
    have hv2:=hv.out
    rw[hL]at hv2
    have hl2:(k:Int)<2:=by omega
    rcases hq with⟨rfl,gq⟩ |⟨rfl,gq⟩
    all_goals
     simp-implicitDefEqProofs[go_sem,t24,t25,t26,t3,gq,gb,hlt,hl2,m1,m2,fo,hz3,hn2,hn3,hx,za3]
     refine zap (fun mm st=>∃tm h2 nx2 j a2 q2 v2,st=.mk tm h2 nx2 []∧mm=L.length-j∧j≤L.length∧tm.get 24=some (.sl ny 0 2 2 false)∧tm.get 25=some (.int .i64 2)∧tm.get 26=some (.int .i64 (k:Int))∧tm.get 33=some (.fz 1 false (za5 L))∧tm.get 34=some (.int .i64 (L.length:Int))∧tm.get 35=some (.int .i64 (j:Int))∧tm.get 3=some v2∧zgv h2 nx2 q2 v2 a2∧nx≤q2∧q2≠ny∧ny<nx2∧h2.get ny=some (bx 40 [.fz 1 false (za5 cuts),.fz 1 false (za5 kids)] false 0)∧Ext nx h h2∧a2.length≤31+k * 2200001+22 * j∧RowKit.Hid (A++zhn cuts kids 0=a2++(zh0 (L.drop j)++rst))) ⟨L.length,_,_,_,0,acc++[58],nx'+1,.sl (nx'+1) 0 (acc.length+1) 0 true,rfl,by simp,by simp,?_⟩ ?_
     ·simp-implicitDefEqProofs[go_sem,t24,t25,t26,gb,m1,m2,hn2,hn3]
      refine⟨⟨by omega,.inl ⟨by simp,by simp[go_sem,zgk,zam]⟩⟩,by omega,by omega,by omega,?_,by omega,Lib.hid (by rw[hv2];simp)⟩
      simp(disch:=omega)only[za6]
      exact he
     ·rintro mm st ⟨tm,h2,nx2,j,a2,q2,v2,rfl,rfl,hj,t24,t25,t26,t33,t34,t35,t3,ho2,hq3,hq4,hny2,gb2,he2,hal2,hv3⟩ J2 hJ2
      refine zag za4 _ ?_
      by_cases hlt2:j<L.length
      ·have hIj:=hI _ (List.getElem_mem hlt2)
       have hv4:=hv3.out
       rw[List.drop_eq_getElem_cons hlt2,zh0]at hv4
       have hil2:=zid L[j] hIj
       simp-implicitDefEqProofs[go_sem,t24,t25,t26,t33,t34,t35,t3,hlt2]
       refine zyb h2 nx2 q2 v2 a2 L[j] ho2 (by omega) hIj.1 hIj.2 _ fun g3 ny3 q3 d1 d2 d3 d4=>?_
       have gb3:g3.get ny=some (bx 40 [.fz 1 false (za5 cuts),.fz 1 false (za5 kids)] false 0):=by rw[d3 ny (by omega) (fun e=>hq4 e.symm)];exact gb2
       have E3:Ext nx h g3:=by
        intro k1 hk1
        rw[d3 k1 (by omega) (by omega)]
        exact he2 k1 hk1
       have hl5:(a2++Lib.itoa L[j]).length+1≤16777216:=by simp;omega
       have hl6:(a2++Lib.itoa L[j]).length≤31+k * 2200001+22 * j+21:=by simp;omega
       have hv5:A++zhn cuts kids 0=((a2++Lib.itoa L[j])++[44])++(zh0 (L.drop (j+1))++rst):=by rw[hv4];simp
       have HV:=Lib.hid hv5
       clear hv4 hv5
       generalize a2++Lib.itoa L[j]=a3 at d4 hl5 hl6 HV ⊢
       obtain⟨f1,f2 |f2⟩:=d4
       ·obtain⟨_,gq3⟩:=f2
        have fo3:=zhl a3
        have p1:¬q3=ny3:=by omega
        have p2:¬ny=ny3:=by omega
        have p3:¬ny=q3:=by omega
        have p4:¬ny=ny3+1:=by omega
        simp-implicitDefEqProofs[go_sem,za0,t24,t25,t26,t33,t34,t35,gq3,fo3,hl5,p1,za3]
        refine hJ2 (L.length-(j+1)) _ (by omega) ⟨_,_,_,j+1,a3++[44],ny3+1,.sl (ny3+1) 0 (a3.length+1) 0 true,rfl,rfl,by omega,?_⟩
        simp(disch:=omega) [go_sem,t24,t25,t26,t33,t34,t35,zab,gb3,p2,p3,p4]
        refine⟨⟨by omega,.inl ⟨by simp,by simp[go_sem,zgk,zam]⟩⟩,by omega,by omega,?_,by omega,Lib.hid (by rw[HV.out];simp)⟩
        simp(disch:=omega)only[za6]
        exact E3
       ·exact absurd f2.1 (by simp)
      ·have hjj:j=L.length:=by omega
       have hv4:=hv3.out
       rw[List.drop_of_length_le (by omega)]at hv4
       simp only[zh0,List.nil_append]at hv4
       simp-implicitDefEqProofs[go_sem,t24,t25,t26,t33,t34,t35,t3,hlt2]
       refine hJ (2-(k+1)) _ (by omega) ⟨_,_,_,k+1,a2,q2,v2,rfl,rfl,by omega,?_⟩
       simp(disch:=omega) [go_sem,t24,t25,t26,t3,zab,gb2]
       exact⟨ho2,hq3,hq4,hny2,he2,by omega,Lib.hid (by rw[hv4,hLk])⟩
   ·have hk3:k=2:=by omega
    subst hk3
    obtain⟨hq0,hq⟩:=ho
    have hres:=hv.out
    simp only[zhn,List.append_nil]at hres
    have htk:(zam acc).take acc.length=zam acc:=by rw[← zh3 acc,List.take_length]
    rcases hq with⟨rfl,gq⟩ |⟨rfl,gq⟩
    all_goals
     simp-implicitDefEqProofs[go_sem,t24,t25,t26,t3,gq,htk]
     refine hR _ _ _ he (Fz.eq rfl ?_)
     rw[← hres]
     rfl
theorem zHu:cx.ft.get 139=some Tryz.f139:=za9 (by decide) (by kernel_rfl)
def zcx (O:Nat→Prop)(h:Tr ABlk) (nx p:Nat)(L:List Nd):Prop:=(L.map zb3).Nodup∧∃a b,h.get p=some (bx 187 [a,b] false 0)∧zlr O h nx p a b (L.map zb3) L
def zeq (L:List Nd)(n:Nd):Nat:=(L.map zb3).findIdx fun k=>decide (k=zb3 n)
theorem zEp {L:List Nd}{n:Nd}(h:zb3 n∈L.map zb3):zeq L n<L.length:=by
 have:=List.findIdx_lt_length_of_exists (p:=fun k=>decide (k=zb3 n)) (xs:=L.map zb3) ⟨zb3 n,h,by simp⟩
 simpa[zeq]using this
theorem zwf {L:List Nd}{n:Nd}(h:¬zb3 n∈L.map zb3):zeq L n=L.length:=by
 have:(L.map zb3).findIdx (fun k=>decide (k=zb3 n))=(L.map zb3).length:=by
  rw[List.findIdx_eq_length]
  intro x hx
  simp
  exact fun e=>h (e ▸ hx)
 simpa[zeq]using this
theorem zT7 {L:List Nd}{n:Nd}{j:Nat}(hnd:(L.map zb3).Nodup)(h:(L.map zb3)[j]?=some (zb3 n)):zeq L n=j:=by
 obtain⟨h2,h3⟩:=List.getElem?_eq_some_iff.1 h
 unfold zeq
 rw[List.findIdx_eq h2]
 refine⟨by simpa using h3,fun i hi=>?_⟩
 simp only[decide_eq_false_iff_not]
 intro e
 exact List.pairwise_iff_getElem.1 hnd i j (by omega) h2 hi (e.trans h3.symm)
open Classical in
def zeh (L:List Nd)(n:Nd):List Nd:=if zb3 n∈L.map zb3 then L else L++[n]
theorem zlr.mono {O O':Nat→Prop}{h g:Tr ABlk}{nx ny p:Nat}{a b:AV}{ks:List ByteArray}{L:List Nd}(u:zlr O h nx p a b ks L)(hO:∀k,O k→O' k)(e:∀k,k<nx→O k→g.get k=h.get k)(hn:nx≤ny):zlr O' g ny p a b ks L:=by
 obtain⟨u1,u2,u3,u4⟩:=u
 refine⟨u1,hO _ u2,by omega,?_⟩
 rcases u4 with u4 |⟨l0,m,q,o1,o2,m1,q1,m2,q2,q3,e1,gm,e2,gq⟩
 ·exact .inl u4
 ·exact .inr ⟨l0,m,q,hO _ o1,hO _ o2,by omega,by omega,m2,q2,q3,e1,by rw[e m m1 o1];exact gm,e2,by rw[e q q1 o2];exact gq⟩
theorem zcx.mono {O O':Nat→Prop}{h g:Tr ABlk}{nx ny p:Nat}{L:List Nd}(u:zcx O h nx p L)(hO:∀k,O k→O' k)(e:∀k,k<nx→O k→g.get k=h.get k)(hn:nx≤ny):zcx O' g ny p L:=by
 obtain⟨u0,a,b,u1,u2⟩:=u
 exact⟨u0,a,b,by rw[e p u2.2.2.1 u2.2.1];exact u1,u2.mono hO e hn⟩
theorem zcx.ext {O:Nat→Prop}{h g:Tr ABlk}{nx ny p:Nat}{L:List Nd}(u:zcx O h nx p L)(e:Ext nx h g)(hn:nx≤ny):zcx O g ny p L:=u.mono (fun _ h=>h) (fun k hk _=>e k hk) hn
theorem zM3 (L:List Nd)(n:Nd):zeq L n<(zeh L n).length:=by
 unfold zeh
 by_cases h:zb3 n∈L.map zb3
 ·rw[if_pos h]
  exact zEp h
 ·rw[if_neg h,zwf h]
  simp
set_option maxHeartbeats 1000000 in
theorem znj (O:Nat→Prop)(h:Tr ABlk) (nx p:Nat)(L:List Nd)(n:Nd)(hM:zcx O h nx p L)(hn:NdI n)(hL:L.length<1000000)(R:AV→Tr ABlk→Nat→Prop)
  (hR:∀O' g ny,zbp O h nx O' g ny→zcx O' g ny p (zeh L n)→R (.int .i64 (zeq L n:Int)) g ny):za7 Tryz.prog cx 139 [.ptr p 0,.agg n.cs] h nx R:=by
 refine zaa (sz:=12) (rs:=[.tmp 4]) za4 zHu rfl rfl rfl (by simp) ?_
 obtain⟨hnd,a,b,gp,hU⟩:=hM
 have pl:=hU.2.2.1
 have d1:¬p=nx:=by omega
 simp-implicitDefEqProofs[go_sem]
 refine znm mixed za4 zbe 6 [] [4] [] [] 0 (by kernel_rfl) (by kernel_rfl) ?_
 simp-implicitDefEqProofs[go_sem]
 refine zbm (zQa n hn) ?_
 simp-implicitDefEqProofs[go_sem,zas,gp,d1]
 refine zGp O _ _ p 187 a b [] (L.map zb3) L (zb3 n) n (by simp[go_sem,d1,gp]) (hU.mono (fun _ h=>h) (fun k hk _=>by simp[go_sem,show ¬k=nx by omega]) (by omega)) hL _ ?_ ?_
 ·intro j g ny hj e1 e2
  have hj1:j<L.length:=by
   rcases Nat.lt_or_ge j L.length with q |q
   ·exact q
   ·rw[List.getElem?_eq_none (by simpa using q)]at hj;cases hj
  have hmem:zb3 n∈L.map zb3:=List.mem_of_getElem? hj
  have hjx:j=zeq L n:=(zT7 hnd hj).symm
  simp-implicitDefEqProofs[go_sem,za0]
  rw[hjx]
  have hE:Ext nx h g:=by
   intro k hk
   rw[e1 k (by omega)]
   simp[go_sem,show ¬k=nx by omega]
  refine hR O g ny ⟨by omega,fun k hk _=>hE k hk,fun k hk=>.inl hk⟩ ?_
  rw[zeh,if_pos hmem]
  exact zcx.ext ⟨hnd,a,b,gp,hU⟩ hE (by omega)
 ·intro g ny a' b' hmem hn2 gp' hU' hk
  simp-implicitDefEqProofs[go_sem,za0]
  have hidx:zeq L n=L.length:=zwf hmem
  rw[← hidx]
  refine hR (fun k=>O k∨nx+1≤k) g ny ⟨by omega,fun k hk1 hk2=>?_,fun k hk=>by rcases hk with hk |hk;exact .inl hk;exact .inr (by omega)⟩ ?_
  ·rw[hk k (by omega) hk2]
   simp[go_sem,show ¬k=nx by omega]
  ·rw[zeh,if_neg hmem]
   refine⟨?_,a',b',gp',?_⟩
   ·rw[List.map_append]
    exact List.nodup_append.2 ⟨hnd,by simp,by
     intro x hx y hy
     simp at hy
     subst hy
     intro e
     exact hmem (e ▸ hx)⟩
   ·rw[List.map_append]
    exact hU'
end
end Go.Ev
namespace Go.Ev
open Go.Proofs
noncomputable section
attribute [-go_sem] zaf zac
theorem zJc (full:Bool)(l:List Fc)(hl:l.length≤1000000)(hs:∀f∈l,f.name.size≤1000000000)(h:Tr ABlk) (nx:Nat)(R:AV→Tr ABlk→Nat→Prop)(hR:∀v g ny,Ext nx h g→nx≤ny→zn5 nx ny g (some v) (ze1 l)→R v g ny):za7 Tryz.prog cx 213 [.agg [.fz 4 full (za8 l)]] h nx R:=by
 refine zaa (sz:=23) (rs:=[.tmp 2]) za4 zz8 rfl rfl rfl (by simp) ?_
 have hres:ze1 l=if zc5 l then l.map Fc.lo else []:=rfl
 generalize ze1 l=res at hR hres
 simp-implicitDefEqProofs[go_sem]
 refine Ret.use (zq1 full l (by omega) hs) ?_
 have E1:∀x,Ext nx h (h.put nx x):=fun x=>(Ext.refl nx h).put (Nat.le_refl _) _
 by_cases hvl:zc5 l=true
 ·rw[if_pos hvl]at hres
  simp-implicitDefEqProofs[go_sem,za0,hvl]
  refine zap (fun mm st=>∃tm h' nx' k acc,st=.mk tm h' nx' []∧mm=l.length-k∧k≤l.length∧tm.get 10=some (.fz 4 full (za8 l))∧tm.get 11=some (.int .i64 (l.length:Int))∧tm.get 12=some (.int .i64 (k:Int))∧zn5 nx nx' h' (tm.get 3) acc∧Ext nx h h'∧nx+1≤nx'∧acc.length≤k∧
      RowKit.Hid (res=acc++(l.drop k).map Fc.lo)) ⟨l.length,_,_,_,0,[],rfl,by simp,by simp,?_⟩ ?_
  ·simp-implicitDefEqProofs[go_sem,E1]
   exact⟨.inl ⟨rfl,rfl⟩,Lib.hid hres⟩
  ·rintro mm st ⟨tm,h',nx',k,acc,rfl,rfl,hk,t10,t11,t12,hacc,he,hn',hal,hv⟩ J hJ
   refine zag za4 _ ?_
   by_cases hlt:k<l.length
   ·have hv2:=hv.out
    rw[List.drop_eq_getElem_cons hlt]at hv2
    have HV:=Lib.hid (show res=(acc++[(l[k]).lo])++(l.drop (k+1)).map Fc.lo by rw[hv2,List.map_cons,List.append_assoc,List.singleton_append])
    clear hv2
    generalize hf:l[k]=f at HV
    cases f with
    |mk fn fk flo fhi=>
    rcases hacc with⟨h1,h2⟩ |⟨h1,b,b1,b2,b3,b4⟩
    ·subst h1
     simp-implicitDefEqProofs[go_sem,t10,t11,t12,hlt,h2,hf,Fc.cs]
     refine hJ (l.length-(k+1)) _ (by omega) ⟨_,_,_,k+1,[flo],rfl,rfl,by omega,?_⟩
     simp(disch:=omega) [go_sem,t10,t11,t12,zab]
     refine⟨.inr ⟨by simp,nx'+1+1,by omega,by omega,rfl,by simp[go_sem,za5]⟩,?_,by omega,Lib.hid (by have:=HV.out;simpa using this)⟩
     simp(disch:=omega)only[za6]
     exact he
    ·have nb:¬b=nx':=by omega
     have nb1:¬b=nx'+1:=by omega
     have nb2:¬nx'=b:=by omega
     have nb3:¬nx'+1=b:=by omega
     have fo:=zi2 acc
     have hle:acc.length+1≤16777216:=by omega
     simp-implicitDefEqProofs[go_sem,t10,t11,t12,hlt,hf,Fc.cs,b3,b4,nb,nb1,nb2,nb3,fo,hle]
     refine hJ (l.length-(k+1)) _ (by omega) ⟨_,_,_,k+1,acc++[flo],rfl,rfl,by omega,?_⟩
     simp(disch:=omega) [go_sem,t10,t11,t12,zab]
     refine⟨.inr ⟨by simp,nx'+1+1,by omega,by omega,by simp,by simp[go_sem,zLv]⟩,?_,by omega,by omega,Lib.hid (by have:=HV.out;simpa using this)⟩
     simp(disch:=omega)only[za6]
     exact he
   ·have hr:res=acc:=by rw[hv.out,List.drop_of_length_le (by omega)];simp
    rcases hacc with⟨h1,h2⟩ |⟨h1,b,b1,b2,b3,b4⟩
    ·simp-implicitDefEqProofs[go_sem,t10,t11,t12,hlt,h2]
     refine hR _ _ _ he (by omega) ?_
     rw[hr,h1]
     exact .inl ⟨rfl,rfl⟩
    ·simp-implicitDefEqProofs[go_sem,t10,t11,t12,hlt,b3]
     refine hR _ _ _ he (by omega) ?_
     rw[hr]
     exact .inr ⟨h1,b,b1,b2,rfl,b4⟩
 ·rw[if_neg hvl]at hres
  simp-implicitDefEqProofs[go_sem,za0,hvl]
  refine hR _ _ _ (E1 _) (by omega) ?_
  rw[hres]
  exact .inl ⟨rfl,rfl⟩
theorem zGo:cx.ft.get 215=some Tryz.f215:=za9 (by decide) (by kernel_rfl)
def zmp (n:Nd):Bool:=decide (n.kids≠[]) || n.leaf
theorem zQl (u:Bool)(g:List Nd) (x:Nat)(hx:x<g.length):Ret Tryz.prog cx 215 [.int .i64 (x:Int),.ip [.fz 4 u (zal g)]] (.bool (zmp g[x])):=by
 refine Ret.mk fun h nx R hR=>zaa (sz:=20) (rs:=[.tmp 3]) za4 zGo rfl rfl rfl (by simp) ?_
 generalize hn:g[x]=n
 obtain⟨f,c,k,lf⟩:=n
 by_cases c1:k=[]
 ·simp-implicitDefEqProofs[go_sem,hx,hn,Nd.cs,c1]
  exact hR _ _ _ (Ext.refl _ _) (Fz.eq rfl (by simp[zmp,hn,c1]))
 ·have ql:0<k.length:=List.length_pos_iff.2 c1
  simp-implicitDefEqProofs[go_sem,hx,hn,Nd.cs,c1,ql]
  exact hR _ _ _ (Ext.refl _ _) (Fz.eq rfl (by simp[zmp,hn,c1]))
end
end Go.Ev
