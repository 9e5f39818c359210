/- Texts T40 T41 N2 N3 T47 N4. -/
import Derived.Test.YtjngkeajenankaaGreatDoorLays
import Derived.Test.YtjngkeajenankaaGreatDoorP12
set_option linter.unusedSimpArgs false
set_option linter.unusedVariables false
set_option maxRecDepth 100000
namespace Go.Ev
open Go.Proofs Go.Sort
noncomputable section
attribute [-go_sem] pPick lookRes
theorem ft177:cx.ft.get 177=some Tryz.f177:=cxS_ft (by decide) (by kernel_rfl)
theorem ft176:cx.ft.get 176=some Tryz.f176:=cxS_ft (by decide) (by kernel_rfl)
theorem ft178:cx.ft.get 178=some Tryz.f178:=cxS_ft (by decide) (by kernel_rfl)
theorem ft133:cx.ft.get 133=some Tryz.f133:=cxS_ft (by decide) (by kernel_rfl)
theorem ft132:cx.ft.get 132=some Tryz.f132:=cxS_ft (by decide) (by kernel_rfl)
theorem ft134:cx.ft.get 134=some Tryz.f134:=cxS_ft (by decide) (by kernel_rfl)
def encY (l:List UInt8):List AV:=l.map fun z=>.int .u8 (z.toNat:Int)
@[go_sem] theorem encY_len (l:List UInt8):(encY l).length=l.length:=by simp[encY]
theorem encY_one:∀l:List UInt8,allOne (encY l)=true
 |[]=>rfl
 |x::l=>by
  have:=encY_one l
  rw[show encY (x::l)=.int .u8 (x.toNat:Int)::encY l from rfl]
  simp[allOne,AV.one]
  exact this
theorem encY_app (l m:List UInt8):encY (l++m)=encY l++encY m:=by simp[encY]
@[go_sem] theorem srcL_bs (b:ByteArray)(h:Tr ABlk):srcL 1 (.bs b) h=some (b.size,encY b.data.toList):=rfl
theorem rel_u8 (σ:Sg)(x:UInt8)(V:Value):Rel σ (.int .u8 (x.toNat:Int)) V↔V=.int .u8 (x.toNat:Int):=by simp only[Rel]
theorem len64_c (u:Nat)(hu:u<18446744073709551616):Ret Tryz.prog cx 177 [.int .u64 (u:Int)] (.int .i64 (Lib.bitLen u:Int)):=by
 refine fun h nx=>ACall_pure cxok ft177 fun σ w A hk hA=>?_
 simp only[RelL,Rel]at hA
 obtain⟨V,L,rfl,rfl,rfl⟩:=hA
 refine(Any.bits_Len64 Tryz.lays129 (u:Int) w (by omega) (by omega)).mono ?_
 rintro e x ⟨rfl,rfl⟩
 exact⟨_,.int .i64 (Lib.bitLen u:Int),0,#[],rfl,by simp only[Rel,Int.toNat_natCast],⟨rfl,rfl,rfl⟩,by simp⟩
theorem smallN_c (i:Nat)(hi:i<100):Ret Tryz.prog cx 132 [.int .i64 (i:Int)] (.bs ⟨(Lib.decDigits i).toArray⟩):=by
 refine fun h nx=>ACall_pure cxok ft132 fun σ w A hk hA=>?_
 simp only[RelL,Rel]at hA
 obtain⟨V,L,rfl,rfl,rfl⟩:=hA
 refine(Any.internal_strconv_small Tryz.lays283 i hi w).mono ?_
 rintro e x ⟨rfl,rfl⟩
 exact⟨_,.bs ⟨(Lib.decDigits i).toArray⟩,0,#[],rfl,by simp only[Rel],⟨rfl,rfl,rfl⟩,by simp⟩
def digsN (n u:Nat):List UInt8:=(List.range n).map fun t=>Lib.dg u (n-1-t)
theorem digsN_len (n u:Nat):(digsN n u).length=n:=by simp[digsN]
theorem base10_c (h:Tr ABlk) (nx q u o n cp esz:Nat)(t:TypeId)(opn opn':Bool)(l:List UInt8)(hq:h.get q=some (bx t (encY l) opn' esz))(hl:o+n≤l.length)(hn:n<1000000)(hu:u<10 ^ n)(hu2:u<18446744073709551616)(R:AV→Tr ABlk→Nat→Prop)
  (hR:R (.tup []) (h.put q (some (bx t (encY (l.take o++(digsN n u++l.drop (o+n)))) opn' esz))) nx):ACall Tryz.prog cx 134 [.sl q o n cp opn,.int .u64 (u:Int)] h nx R:=by
 refine ACall_row cxok ft134 (fun x:UInt8=>AV.int .u8 (x.toNat:Int)) (fun x:UInt8=>Value.int .u8 (x.toNat:Int)) (fun σ x V=>rel_u8 σ x V) (l:=l) (rest:=[.int .u64 (u:Int)]) hq hl (fun d v=>d=digsN n u∧v=.tup []) ?_ ?_
 ·intro σ w RA b cap hk hRA hH hb
  simp only[RelL,Rel]at hRA
  obtain⟨V,L,rfl,rfl,rfl⟩:=hRA
  have hsz:((l.drop o).take n).toArray.size=n:=by simp;omega
  have hc:=Any.internal_strconv_formatBase10 Tryz.lays285 b o cap u ((l.drop o).take n).toArray w hH (by rw[hsz];exact hu) hu2 (by rw[hsz];omega)
  rw[hsz]at hc
  refine hc.mono ?_
  rintro e x ⟨rfl,k,v',dk,rfl,hf⟩
  have hd:dk.toList=digsN n u:=by
   have hs:=hf.size
   apply List.ext_getElem (by simp[digsN];exact hs)
   intro t h1 h2
   have ht:t<n:=by simpa[digsN]using h2
   have:=hf.done t (by omega) ht
   rw[getElem!_pos _ t (by omega)]at this
   simp[digsN,this]
  refine⟨_,.tup [],k,#[],digsN n u,rfl,by simp only[Rel];exact⟨[],rfl,by simp only[RelL]⟩,digsN_len n u,⟨rfl,rfl⟩,?_⟩
  rw[← hd]
  rfl
 ·rintro d v _ ⟨rfl,rfl⟩
  exact hR
theorem evShift_shr (k:IntKind) (a n:Nat)(h:Tr ABlk) (nx:Nat):evShift .shr k (a:Int) (n:Int) h nx=.val (.int k ((a / 2 ^ (min n k.bits):Nat):Int)) h nx:=by
 show fN (Nat.div a (Nat.pow 2 (min n k.bits))) (fun z=>R.val (.int k (Int.ofNat z)) h nx)=_
 rw[fN_eq]
 rfl
@[go_sem] theorem evShift_18 (a:Nat)(h:Tr ABlk) (nx:Nat):evShift .shr .i64 (a:Int) 18 h nx=.val (.int .i64 ((a / 262144:Nat):Int)) h nx:=evShift_shr .i64 a 18 h nx
theorem log_c (n:Nat)(hn:n≤64):Ret Tryz.prog cx 176 [.int .i64 (n:Int)] (.int .i64 (Lib.l10 n:Int)):=by
 refine Ret.mk fun h nx R hR=>ACall_mk (sz:=6) (rs:=[.tmp 2]) cxok ft176 rfl rfl rfl (by simp) ?_
 have e1:IntKind.i64.wrap ((n:Int) * 78913)=((n * 78913:Nat):Int):=by
  rw[i64wrap] <;> omega
 simp[go_sem,-Int.natCast_mul,e1]
 exact hR _ _ _ (Ext.refl _ _) (Fz.eq rfl rfl)
theorem bool2_c (b:Bool):Ret Tryz.prog cx 178 [.bool b] (.int .i64 (if b then 1 else 0)):=by
 refine Ret.mk fun h nx R hR=>ACall_mk (sz:=4) (rs:=[.tmp 2]) cxok ft178 rfl rfl rfl (by simp) ?_
 cases b
 ·simp[go_sem]
  exact hR _ _ _ (Ext.refl _ _) (Fz.eq rfl rfl)
 ·simp[go_sem]
  exact hR _ _ _ (Ext.refl _ _) (Fz.eq rfl rfl)
theorem pow10_drop (n:Nat)(hn:n<20):pow10L.drop n=.int .u64 ((10 ^ n:Nat):Int)::pow10L.drop (n+1):=by
 have hl:n<pow10L.length:=by simp[pow10L];exact hn
 rw[List.drop_eq_getElem_cons hl]
 simp[pow10L]
@[go_sem] theorem evO_pow (tm:Tr AV):evO G0 tm (.global 1)=some (.ip pow10L):=rfl
theorem numDigits_c (u:Nat)(h1:1≤u)(hu:u<18446744073709551616):Ret Tryz.prog cx 133 [.int .u64 (u:Int)] (.int .i64 (Lib.nDigits u:Int)):=by
 refine Ret.mk fun h nx R hR=>ACall_mk (sz:=15) (rs:=[.tmp 2]) cxok ft133 rfl rfl rfl (by simp) ?_
 obtain⟨d1,d2⟩:=Lib.numDigits_eq u h1 hu
 have d3:=Lib.bitLen_le u 64 (Nat.le_refl _) hu
 simp[go_sem]
 refine Ret.use (len64_c u hu) ?_
 simp[go_sem,goOn_some]
 refine Ret.use (log_c _ d3) ?_
 have hd:=pow10_drop (Lib.l10 (Lib.bitLen u)) (by omega)
 generalize Lib.l10 (Lib.bitLen u)=q at *
 have hq:q<20:=by omega
 simp[go_sem,goOn_some,hq,hd]
 refine Ret.use (bool2_c _) ?_
 simp[go_sem,goOn_some]
 refine hR _ _ _ (Ext.refl _ _) (Fz.eq rfl ?_)
 have hc:((10:Int) ^ q≤(u:Int))↔10 ^ q≤u:=by
  have:((10:Int) ^ q)=((10 ^ q:Nat):Int):=by simp
  rw[this]
  omega
 simp only[hc]
 congr 1
 by_cases c:10 ^ q≤u
 ·rw[if_pos c]at d1 ⊢
  rw[i64wrap] <;> omega
 ·rw[if_neg c]at d1 ⊢
  rw[i64wrap] <;> omega
theorem decDigits_digsN (u:Nat):Lib.decDigits u=digsN (Lib.nDigits u) u:=Lib.decDigits_eq u
theorem nDigits_le (u:Nat)(h1:1≤u)(hu:u<18446744073709551616):Lib.nDigits u≤20:=by
 obtain⟨d1,d2⟩:=Lib.numDigits_eq u h1 hu
 split at d1 <;> omega
theorem nDigits_lt (u:Nat):u<10 ^ Lib.nDigits u:=Lib.lt_pow_nDigits u
@[go_sem] theorem evOo_none (G:Gl)(tm:Tr AV):evOo G tm none=some none:=rfl
@[go_sem] theorem evOo_some (G:Gl)(tm:Tr AV)(o:Operand):evOo G tm (some o)=match evO G tm o with
 |some v=>some (some v)
 |none=>none:=rfl
theorem u64wrap (x:Int)(h1:0≤x)(h2:x≤18446744073709551615):IntKind.u64.wrap x=x:=by
 have:=IntWalk.u64_in x
 exact this (by omega)
theorem u64neg (u:Nat)(h1:1≤u)(h2:u≤9223372036854775808):IntKind.u64.wrap (-IntKind.u64.wrap (-(u:Int)))=(u:Int):=by
 simp only[IntKind.wrap,IntKind.signed,IntKind.bits]
 simp
 omega
@[go_sem] theorem evUn_neg (k:IntKind) (n:Int)(h:Tr ABlk) (nx:Nat):evUn .neg (.int k n) h nx=.val (.int k (k.wrap (-n))) h nx:=by
 show fI (wrapF k (Int.sub 0 n)) (fun z=>R.val (.int k z) h nx)=_
 rw[fI_eq,wrapF_eq,show Int.sub 0 n=-n from Int.zero_sub n]
end
end Go.Ev
namespace Go.Ev
open Go.Proofs Go.Sort
noncomputable section
attribute [-go_sem] pPick lookRes evConvS
theorem ft91:cx.ft.get 91=some Tryz.f91:=cxS_ft (by decide) (by kernel_rfl)
theorem ft50:cx.ft.get 50=some Tryz.f50:=cxS_ft (by decide) (by kernel_rfl)
theorem ft20:cx.ft.get 20=some Tryz.f20:=cxS_ft (by decide) (by kernel_rfl)
@[go_sem] theorem bytesS_Y (l:List UInt8):bytesS (encY l)=some l:=bytesS_map l
@[go_sem] theorem idx_one (k:IntKind):idx (.int k 1)=some 1:=rfl
@[go_sem] theorem idx_zero (k:IntKind):idx (.int k 0)=some 0:=rfl
@[go_sem] theorem evIndexAddr_arr (n0:Nat)(e:TypeId) (size b:Nat)(z:Option AV) (x:Nat) (s:Nat)(y:Bool)(fs:List (Nat×Nat×Bool)) (i o:Nat)(k:IntKind) (n:Nat)(h:Tr ABlk) (nx:Nat)(hn:n<n0):
  evIndexAddr (.mk (.array n0 e) size b z ((x,s,y)::fs)) (.ptr i o) (.int k (n:Int)) h nx=.val (.ptr i (o+n * s)) h nx:=by
 simp[evIndexAddr,idx_nat,nble,Nat.succ_le_of_lt hn,fN_eq]
@[go_sem] theorem evIndexAddr_arr0 (n0:Nat)(e:TypeId) (size b:Nat)(z:Option AV) (x:Nat) (s:Nat)(y:Bool)(fs:List (Nat×Nat×Bool)) (i o:Nat)(k:IntKind)(h:Tr ABlk) (nx:Nat)(hn:0<n0):
  evIndexAddr (.mk (.array n0 e) size b z ((x,s,y)::fs)) (.ptr i o) (.int k 0) h nx=.val (.ptr i o) h nx:=by
 have:=evIndexAddr_arr n0 e size b z x s y fs i o k 0 h nx hn
 simpa using this
def convB (B:Option ABlk) (o l:Nat)(h:Tr ABlk) (nx:Nat):R:=match B with
 |some (.cells _ n c _ _)=>match Nat.ble (Nat.add o l) n with
  |true=>match getN c l o with
   |some cs=>match bytesS cs with
    |some r=>.val (.bs ⟨r.toArray⟩) h nx
    |none=>.fail
   |none=>.fail
  |false=>.fail
 |_=>.fail
def convL (r:Option (List UInt8))(h:Tr ABlk) (nx:Nat):R:=match r with
 |some r=>.val (.bs ⟨r.toArray⟩) h nx
 |none=>.fail
@[go_sem] theorem evConvS_int (ts:TI)(k k':IntKind) (d1 d2:Nat)(d3:Option AV)(d4:List (Nat×Nat×Bool))(te:Option TI)(et:TypeId) (n:Int)(h:Tr ABlk) (nx:Nat):evConvS ts (.mk (.int k) d1 d2 d3 d4) te et (.int k' n) h nx=.val (.int k (k.wrap n)) h nx:=by
 cases ts;rfl
@[go_sem high] theorem evConvS_sl (e s1 s2 d1 d2 t1 t2:Nat)(s3 d3 t3:Option AV)(s4 d4 t4:List (Nat×Nat×Bool)) (i o l cp:Nat)(opn:Bool)(h:Tr ABlk) (nx:Nat):
  evConvS (.mk (.slice e) s1 s2 s3 s4) (.mk .string d1 d2 d3 d4) (some (.mk (.int .u8) t1 t2 t3 t4)) e (.sl i o l cp opn) h nx=convB (h.get i) o l h nx:=by
 simp only[evConvS,Nat.beq_refl]
 rfl
@[go_sem] theorem convB_bx (t:TypeId)(L:List AV)(opn:Bool) (esz o l:Nat)(h:Tr ABlk) (nx:Nat)(hl:o+l≤L.length):convB (some (bx t L opn esz)) o l h nx=convL (bytesS ((L.drop o).take l)) h nx:=by
 have e1:Nat.ble (Nat.add o l) L.length=true:=Nat.ble_eq_true_of_le hl
 simp only[convB,bx,e1,getN_putN L l o hl]
 cases bytesS ((L.drop o).take l) <;> rfl
@[go_sem] theorem convL_some (r:List UInt8)(h:Tr ABlk) (nx:Nat):convL (some r) h nx=.val (.bs ⟨r.toArray⟩) h nx:=rfl
set_option maxHeartbeats 1000000 in
theorem formatInt_c (i:Int)(h0:-9223372036854775808≤i)(h1:i≤9223372036854775807):Ret Tryz.prog cx 91 [.int .i64 i,.int .i64 10] (.bs ⟨(Lib.itoa i).toArray⟩):=by
 refine Ret.mk fun h nx R hR=>ACall_mk (sz:=54) (rs:=[.tmp 4]) cxok ft91 rfl rfl rfl (by simp) ?_
 by_cases c1:0≤i∧i<100
 ·obtain⟨u,hu⟩:∃u:Nat,i=(u:Int):=⟨i.toNat,by omega⟩
  have hit:Lib.itoa i=Lib.decDigits u:=by rw[Lib.itoa,if_neg (by omega),hu];simp
  rw[hit]at hR
  have hc:=smallN_c u (by omega)
  rw[← hu]at hc
  simp[go_sem,c1.1,c1.2]
  refine Ret.use hc ?_
  simp[go_sem,goOn_some]
  exact hR _ _ _ (Ext.refl _ _) (Fz.eq rfl rfl)
 ·by_cases c:i<0
  ·have c2:¬0≤i:=by omega
   obtain⟨u,hu⟩:∃u:Nat,i=-(u:Int):=⟨i.natAbs,by omega⟩
   have hw:IntKind.u64.wrap (-IntKind.u64.wrap i)=(u:Int):=by rw[hu];exact u64neg u (by omega) (by omega)
   have hit:Lib.itoa i=45::Lib.decDigits u:=by rw[Lib.itoa,if_pos c,hu];simp
   rw[hit]at hR
   have hu2:u<18446744073709551616:=by omega
   have n20:=nDigits_le u (by omega) hu2
   have n1:=Lib.nDigits_pos u
   have nlt:=nDigits_lt u
   have hdd:=decDigits_digsN u
   have hdl:=digsN_len (Lib.nDigits u) u
   simp[go_sem,c,c2,hw]
   refine Ret.use (numDigits_c u (by omega) hu2) ?_
   generalize Lib.nDigits u=n at *
   obtain⟨m,hm⟩:∃m,m=n+1:=⟨_,rfl⟩
   have w1:IntKind.i64.wrap (1+(n:Int))=(m:Int):=by rw[hm,i64wrap] <;> omega
   have m24:m≤24:=by omega
   have m1:1≤m:=by omega
   have mn:m-1=n:=by omega
   simp[go_sem,goOn_some,m24,m1,mn,w1]
   refine base10_c _ _ nx u 1 n 23 0 243 false false (List.replicate 24 0) (by simp only[Tr.get_put,if_true];rfl) (by simp;omega) (by omega) nlt hu2 _ ?_
   have hbl:(List.take 1 (List.replicate 24 (0:UInt8))++(digsN n u++List.drop (1+n) (List.replicate 24 0)))=0::(digsN n u++List.replicate (23-n) 0):=by
    rw[List.drop_replicate,show 24-(1+n)=23-n by omega];rfl
   rw[hbl]
   have hsg:segL (encY (0::(digsN n u++List.replicate (23-n) 0))) 0 [.int .u8 45]=encY (45::(digsN n u++List.replicate (23-n) 0)):=rfl
   have hln:(encY (0::(digsN n u++List.replicate (23-n) 0))).length=24:=by simp[encY_len,hdl];omega
   have hln2:(encY (45::(digsN n u++List.replicate (23-n) 0))).length=24:=by simp[encY_len,hdl];omega
   have htk:(encY (45::(digsN n u++List.replicate (23-n) 0))).take m=encY (45::digsN n u):=by
    rw[show encY (45::(digsN n u++List.replicate (23-n) 0))=encY (45::digsN n u)++encY (List.replicate (23-n) 0) by rw[← encY_app];rfl]
    exact List.take_left' (by rw[encY_len];simp[hdl];omega)
   rw[hdd]at hR
   generalize encY (45::(digsN n u++List.replicate (23-n) 0))=buf2 at hsg htk hln2
   generalize encY (0::(digsN n u++List.replicate (23-n) 0))=buf at hsg hln
   simp[go_sem,goOn_some,m24,w1,c,hsg,hln,hln2,htk]
   refine hR _ _ _ ?_ (Fz.eq rfl rfl)
   simp(disch:=omega)only[ext_put]
   exact Ext.refl _ _
  ·have c2:¬i<100:=by omega
   have c3:0≤i:=by omega
   obtain⟨u,hu⟩:∃u:Nat,i=(u:Int):=⟨i.toNat,by omega⟩
   have hw:IntKind.u64.wrap i=(u:Int):=by rw[hu];exact u64wrap _ (by omega) (by omega)
   have hit:Lib.itoa i=Lib.decDigits u:=by rw[Lib.itoa,if_neg c,hu];simp
   rw[hit]at hR
   have hu2:u<18446744073709551616:=by omega
   have n20:=nDigits_le u (by omega) hu2
   have n1:=Lib.nDigits_pos u
   have nlt:=nDigits_lt u
   have hdd:=decDigits_digsN u
   have hdl:=digsN_len (Lib.nDigits u) u
   simp[go_sem,c,c2,c3,hw]
   refine Ret.use (numDigits_c u (by omega) hu2) ?_
   generalize Lib.nDigits u=n at *
   obtain⟨m,hm⟩:∃m,m=n+1:=⟨_,rfl⟩
   have w1:IntKind.i64.wrap (1+(n:Int))=(m:Int):=by rw[hm,i64wrap] <;> omega
   have m24:m≤24:=by omega
   have m1:1≤m:=by omega
   have mn:m-1=n:=by omega
   simp[go_sem,goOn_some,m24,m1,mn,w1]
   refine base10_c _ _ nx u 1 n 23 0 243 false false (List.replicate 24 0) (by simp only[Tr.get_put,if_true];rfl) (by simp;omega) (by omega) nlt hu2 _ ?_
   have hbl:(List.take 1 (List.replicate 24 (0:UInt8))++(digsN n u++List.drop (1+n) (List.replicate 24 0)))=0::(digsN n u++List.replicate (23-n) 0):=by
    rw[List.drop_replicate,show 24-(1+n)=23-n by omega];rfl
   rw[hbl]
   have hln:(encY (0::(digsN n u++List.replicate (23-n) 0))).length=24:=by simp[encY_len,hdl];omega
   have htk:((encY (0::(digsN n u++List.replicate (23-n) 0))).drop 1).take n=encY (digsN n u):=by
    rw[show (encY (0::(digsN n u++List.replicate (23-n) 0))).drop 1=encY (digsN n u)++encY (List.replicate (23-n) 0) by rw[← encY_app];rfl]
    exact List.take_left' (by rw[encY_len];exact hdl)
   rw[hdd]at hR
   have hbd:1+n≤24:=by omega
   generalize encY (0::(digsN n u++List.replicate (23-n) 0))=buf at htk hln
   rw[List.drop_one]at htk
   simp[go_sem,goOn_some,m24,m1,mn,w1,c,hln,hbd,htk]
   refine hR _ _ _ ?_ (Fz.eq rfl rfl)
   simp(disch:=omega)only[ext_put]
   exact Ext.refl _ _
theorem itoa1_c (i:Int)(h0:-9223372036854775808≤i)(h1:i≤9223372036854775807):Ret Tryz.prog cx 50 [.int .i64 i] (.bs ⟨(Lib.itoa i).toArray⟩):=by
 refine Ret.mk fun h nx R hR=>ACall_mk (sz:=5) (rs:=[.tmp 2]) cxok ft50 rfl rfl rfl (by simp) ?_
 simp[go_sem]
 refine Ret.use (formatInt_c i h0 h1) ?_
 simp[go_sem,goOn_some]
 exact hR _ _ _ (Ext.refl _ _) (Fz.eq rfl rfl)
theorem itoa_c (i:Int)(h0:-9223372036854775808≤i)(h1:i≤9223372036854775807):Ret Tryz.prog cx 20 [.int .i64 i] (.bs ⟨(Lib.itoa i).toArray⟩):=by
 refine Ret.mk fun h nx R hR=>ACall_mk (sz:=5) (rs:=[.tmp 2]) cxok ft20 rfl rfl rfl (by simp) ?_
 simp[go_sem]
 refine Ret.use (itoa1_c i h0 h1) ?_
 simp[go_sem,goOn_some]
 exact hR _ _ _ (Ext.refl _ _) (Fz.eq rfl rfl)
end
end Go.Ev
namespace Go.Ev
open Go.Proofs Go.RowKit
noncomputable section
attribute [-go_sem] pPick lookRes
theorem ft55:cx.ft.get 55=some Tryz.f55:=cxS_ft (by decide) (by kernel_rfl)
theorem ft25:cx.ft.get 25=some Tryz.f25:=cxS_ft (by decide) (by kernel_rfl)
def digT:ByteArray:=⟨#[48,49,50,51,52,53,54,55,56,57]⟩
theorem digT_at:∀d,d<10→digT.extract d (d+1)=⟨#[UInt8.ofNat (48+d)]⟩:=by
 intro d hd
 match d,hd with
 |0,_=>rfl
 |1,_=>rfl
 |2,_=>rfl
 |3,_=>rfl
 |4,_=>rfl
 |5,_=>rfl
 |6,_=>rfl
 |7,_=>rfl
 |8,_=>rfl
 |9,_=>rfl
def decS (u:Nat):ByteArray:=⟨(Lib.decDigits u).toArray⟩
def decP (n:Nat):List UInt8:=if n=0 then [] else Lib.decDigits n
theorem decP_step (n:Nat):Lib.decDigits n=decP (n / 10)++[UInt8.ofNat (48+n % 10)]:=by
 rw[Lib.decDigits,decP]
 by_cases h:n<10
 ·rw[dif_pos h,if_pos (by omega),show n % 10=n by omega];rfl
 ·rw[dif_neg h,if_neg (by omega)]
@[go_sem] theorem evInt_rem (k:IntKind) (a b:Int)(h:Tr ABlk) (nx:Nat)(hb:¬b=0):evInt .rem k a b h nx=.val (.int k (Int.tmod a b)) h nx:=by
 have hb':(b == 0)=false:=by simpa using hb
 simp[evInt,ieq_eq,hb',fI_eq]
@[go_sem] theorem evInt_quo (k:IntKind) (a b:Int)(h:Tr ABlk) (nx:Nat)(hb:¬b=0):evInt .quo k a b h nx=.val (.int k (k.wrap (Int.tdiv a b))) h nx:=by
 have hb':(b == 0)=false:=by simpa using hb
 simp[evInt,ieq_eq,hb',fI_eq,wrapF_eq]
set_option maxHeartbeats 1000000 in
theorem digits_c (u:Nat)(hu:u<18446744073709551616):Ret Tryz.prog cx 55 [.int .u64 (u:Int)] (.bs (decS u)):=by
 refine Ret.mk fun h nx R hR=>ACall_mk (sz:=25) (rs:=[.tmp 2]) cxok ft55 rfl rfl rfl (by simp) ?_
 have hF:∀b,b=decS u→R (.bs b) h nx:=fun z e=>hR _ _ _ (Ext.refl _ _) (Fz.eq rfl (by rw[e]))
 have hF':=Lib.hid hF
 clear hF hR
 obtain⟨d,hd⟩:∃d,d=u % 10:=⟨_,rfl⟩
 obtain⟨e,he⟩:∃e,e=u / 10:=⟨_,rfl⟩
 have m1:(u:Int).tmod 10=(d:Int):=by rw[Int.tmod_eq_emod_of_nonneg (by omega)];omega
 have m2:(u:Int).tdiv 10=(e:Int):=by rw[Int.tdiv_eq_ediv_of_nonneg (by omega)];omega
 have w1:IntKind.u64.wrap ((d:Int)+1)=((d+1:Nat):Int):=u64wrap _ (by omega) (by omega)
 have w2:IntKind.u64.wrap (e:Int)=(e:Int):=u64wrap _ (by omega) (by omega)
 have b1:Nat.ble d (d+1)=true:=Nat.ble_eq_true_of_le (by omega)
 have b2:Nat.ble (d+1) 10=true:=Nat.ble_eq_true_of_le (by omega)
 obtain⟨x,hxd⟩:∃x,x=UInt8.ofNat (48+d):=⟨_,rfl⟩
 have hx:=digT_at d (by omega)
 rw[← hxd]at hx
 unfold digT at hx
 have i1:idx (.int .u64 ((d:Int)+1))=some (d+1):=idx_nat .u64 (d+1)
 have d10:d+1≤10:=by omega
 simp[go_sem,m1,m2,w1,w2,i1,d10,hx]
 refine AW_rounds (fun mm st=>∃tm n s,st=.mk tm h nx []∧mm=n∧n<18446744073709551616∧tm.get 0=some (.int .u64 (n:Int))∧tm.get 3=some (.bs s)∧RowKit.Hid (decP n++s.data.toList=Lib.decDigits u∧n * 10 ^ s.size≤u)) ⟨e,_,e,⟨#[x]⟩,rfl,rfl,by omega,?_⟩ ?_
 ·simp[go_sem]
  refine Lib.hid ⟨?_,?_⟩
  ·rw[decP_step u,he,hxd,hd]
  ·show e * 10 ^ 1≤u
   omega
 ·rintro n st ⟨tm,_,s,rfl,rfl,hn,t0,t3,hv⟩ J hJ
  refine aw_ok cxok _ ?_
  clear m1 m2 w1 w2 b1 b2 hx i1 d10 hd he
  by_cases c:0<n
  ·obtain⟨d',hd⟩:∃d,d=n % 10:=⟨_,rfl⟩
   obtain⟨e',he⟩:∃e,e=n / 10:=⟨_,rfl⟩
   have m1:(n:Int).tmod 10=(d':Int):=by rw[Int.tmod_eq_emod_of_nonneg (by omega)];omega
   have m2:(n:Int).tdiv 10=(e':Int):=by rw[Int.tdiv_eq_ediv_of_nonneg (by omega)];omega
   have w1:IntKind.u64.wrap ((d':Int)+1)=((d'+1:Nat):Int):=u64wrap _ (by omega) (by omega)
   have w2:IntKind.u64.wrap (e':Int)=(e':Int):=u64wrap _ (by omega) (by omega)
   obtain⟨x',hxd'⟩:∃x,x=UInt8.ofNat (48+d'):=⟨_,rfl⟩
   have hx:=digT_at d' (by omega)
   rw[← hxd']at hx
   unfold digT at hx
   have i1:idx (.int .u64 ((d':Int)+1))=some (d'+1):=idx_nat .u64 (d'+1)
   have d10:d'+1≤10:=by omega
   have hsz:s.size<20:=by
    have h1:10 ^ s.size≤u:=by
     have:=hv.out.2
     have h2:1 * 10 ^ s.size≤n * 10 ^ s.size:=Nat.mul_le_mul_right _ c
     omega
    rcases Nat.lt_or_ge s.size 20 with h2 |h2
    ·exact h2
    ·have:=Nat.pow_le_pow_right (show 0<10 by omega) h2
     omega
   have hs1:(ByteArray.mk #[x']).size=1:=rfl
   have hs2:1+s.size≤9223372036854775807:=by omega
   simp[go_sem,t0,t3,c,m1,m2,w1,w2,i1,d10,hx,hs1,hs2]
   refine hJ e' _ (by omega) ⟨_,e',⟨#[x']⟩++s,rfl,rfl,by omega,?_⟩
   simp[go_sem,t0,t3]
   obtain⟨v1,v2⟩:=hv.out
   refine Lib.hid ⟨?_,?_⟩
   ·rw[← v1]
    rw[show decP n=Lib.decDigits n by rw[decP,if_neg (by omega)],decP_step n,he,hxd',hd]
    simp
   ·rw[show 1+s.size=s.size+1 by omega,Nat.pow_succ]
    have h3:e' * (10 ^ s.size * 10)=(e' * 10) * 10 ^ s.size:=by rw[Nat.mul_comm (10 ^ s.size) 10,Nat.mul_assoc]
    rw[h3]
    exact Nat.le_trans (Nat.mul_le_mul_right _ (by omega)) v2
  ·simp[go_sem,t0,t3,c]
   refine hF'.out _ ?_
   have v1:=hv.out.1
   rw[show decP n=[] by rw[decP,if_pos (by omega)]]at v1
   unfold decS
   rw[← v1]
   simp
theorem decimal_c (n:Nat)(hn:n≤9223372036854775807):Ret Tryz.prog cx 25 [.int .i64 (n:Int)] (.bs (decS n)):=by
 refine Ret.mk fun h nx R hR=>ACall_mk (sz:=15) (rs:=[.tmp 2]) cxok ft25 rfl rfl rfl (by simp) ?_
 have c:¬(n:Int)<0:=by omega
 have w:=u64wrap (n:Int) (by omega) (by omega)
 simp[go_sem,c,w]
 refine Ret.use (digits_c n (by omega)) ?_
 simp[go_sem,goOn_some]
 exact hR _ _ _ (Ext.refl _ _) (Fz.eq rfl rfl)
end
end Go.Ev
namespace Go.Ev
open Go.Proofs Go.RowKit
noncomputable section
attribute [-go_sem] pPick lookRes evStrB
theorem ft24:cx.ft.get 24=some Tryz.f24:=cxS_ft (by decide) (by kernel_rfl)
theorem ft27:cx.ft.get 27=some Tryz.f27:=cxS_ft (by decide) (by kernel_rfl)
def wordsL:List ByteArray→List UInt8
 |[]=>[]
 |[a]=>a.data.toList
 |a::b::l=>a.data.toList++32::wordsL (b::l)
def lineB (l:List ByteArray):ByteArray:=⟨(wordsL l++[10]).toArray⟩
theorem wordsL_snoc:∀(l:List ByteArray)(x:ByteArray),l≠[]→wordsL (l++[x])=wordsL l++32::x.data.toList
 |[],x,h=>absurd rfl h
 |[a],x,_=>by simp[wordsL]
 |a::b::l,x,_=>by
  have:=wordsL_snoc (b::l) x (by simp)
  simp only[List.cons_append]at this ⊢
  simp only[wordsL,this,List.append_assoc,List.cons_append]
def sizesL (l:List ByteArray):Nat:=(l.map fun x=>x.size+1).sum
theorem wordsL_len:∀l:List ByteArray,(wordsL l).length≤sizesL l
 |[]=>Nat.le_refl _
 |[a]=>by simp[wordsL,sizesL]
 |a::b::l=>by
  have:=wordsL_len (b::l)
  simp[wordsL,sizesL]at this ⊢
  omega
theorem sizesL_at (l:List ByteArray):∀k,(h:k<l.length)→sizesL (l.take k)+l[k].size+1≤sizesL l:=by
 induction l with
 |nil=>intro k h;simp at h
 |cons a l ih=>
  intro k h
  cases k with
  |zero=>simp[sizesL]
  |succ k=>
   have:=ih k (by simpa using h)
   simp[sizesL]at this ⊢
   omega
theorem line_c (full:Bool)(l:List ByteArray)(hl:l.length≤1000000000)(hs:sizesL l≤1000000000):Ret Tryz.prog cx 24 [.fz 1 full (encB l)] (.bs (lineB l)):=by
 refine Ret.mk fun h nx R hR=>ACall_mk (sz:=23) (rs:=[.tmp 2]) cxok ft24 rfl rfl rfl (by simp) ?_
 have hF:∀b,b=lineB l→R (.bs b) h nx:=fun z e=>hR _ _ _ (Ext.refl _ _) (Fz.eq rfl (by rw[e]))
 have hF':=Lib.hid hF
 clear hF hR
 simp[go_sem]
 refine AW_rounds (fun mm st=>∃tm k s,st=.mk tm h nx []∧mm=l.length-k∧k≤l.length∧tm.get 0=some (.fz 1 full (encB l))∧tm.get 3=some (.bs s)∧tm.get 4=some (.int .i64 (k:Int))∧RowKit.Hid (s.data.toList=wordsL (l.take k))) ⟨l.length,_,0,⟨#[]⟩,rfl,rfl,by omega,?_⟩ ?_
 ·simp[go_sem]
  exact Lib.hid rfl
 ·rintro mm st ⟨tm,k,s,rfl,rfl,hk,t0,t3,t4,hv⟩ J hJ
  refine aw_ok cxok _ ?_
  have hsl:s.size≤sizesL (l.take k):=by
   have h1:=wordsL_len (l.take k)
   rw[← hv.out]at h1
   have:s.data.toList.length=s.size:=by simp
   omega
  by_cases c1:k<l.length
  ·have h2:=sizesL_at l k c1
   have e1:l.take (k+1)=l.take k++[l[k]]:=(List.take_append_getElem c1).symm
   by_cases k0:k=0
   ·subst k0
    have hz:s=⟨#[]⟩:=by
     have:=hv.out
     simp[wordsL]at this
     exact ByteArray.ext this
    subst hz
    have s1:(ByteArray.mk #[]).size+l[0].size≤9223372036854775807:=by
     have:(ByteArray.mk #[]).size=0:=rfl
     omega
    have s2:l[0].size≤9223372036854775807:=by omega
    simp[go_sem,t0,t3,t4,c1,s1,s2]
    refine hJ (l.length-1) _ (by omega) ⟨_,1,l[0],rfl,rfl,by omega,?_⟩
    simp(disch:=omega) [go_sem,t0,t3,t4,i64wrap]
    simp at e1
    rw[e1]
    exact⟨ByteArray.ext (by simp),Lib.hid rfl⟩
   ·have k0I:(0:Int)<k:=by omega
    have kp:0<k:=by omega
    have s1:s.size+1≤9223372036854775807:=by omega
    have s2:s.size+1+l[k].size≤9223372036854775807:=by omega
    have z1:(ByteArray.mk #[32]).size=1:=rfl
    have s3:s.size≤9223372036854775806:=by omega
    simp[go_sem,t0,t3,t4,c1,k0I,kp,z1,s1,s2,s3]
    refine hJ (l.length-(k+1)) _ (by omega) ⟨_,k+1,s++⟨#[32]⟩++l[k],rfl,rfl,by omega,?_⟩
    simp(disch:=omega) [go_sem,t0,t3,t4,i64wrap]
    refine Lib.hid ?_
    rw[e1,wordsL_snoc _ _ (by
     intro q
     have:=congrArg List.length q
     rw[List.length_take,List.length_nil]at this
     omega),← hv.out]
  ·have e1:l.take k=l:=List.take_of_length_le (by omega)
   rw[e1]at hv hsl
   have s1:s.size+1≤9223372036854775807:=by omega
   have z1:(ByteArray.mk #[10]).size=1:=rfl
   have s3:s.size≤9223372036854775806:=by omega
   simp[go_sem,t0,t3,t4,c1,z1,s1,s3]
   refine hF'.out _ ?_
   unfold lineB
   rw[← hv.out]
   apply ByteArray.ext
   apply Array.ext'
   simp
end
end Go.Ev
namespace Go.Ev
open Go.Proofs Go.RowKit
noncomputable section
attribute [-go_sem] pPick lookRes evConvS
theorem xok_of' {P : Program} {f : FuncId} {fn : Func} {e : Array Value → Sem Value} (hf : P.funcs[f]? = some fn) (hn : (fn.name == "runtime.NumGoroutine") = false) (hb : fn.body = none) (h1 : Extern.findNext fn = none) (h2 : Extern.find fn = some e) : ∀ A w, (callFunc f A).run P w = ((e A).run P w).andThen fun v w' => .ok (.value v) w' := by
 intro A w
 have hn' : ¬ fn.name = "runtime.NumGoroutine" := fun e => by rw [e] at hn; simp at hn
 simp only[callFunc,Sem.run_bind,run_program,Result.andThen,hf,hn',hb,h1,h2,mark,Sem.run,Option.isNone_none,if_true,beq_iff_eq,if_false]
 cases (e A).run P w <;> rfl
theorem noEsc_c (v:AV):Ret Tryz.prog cx 86 [v] v:=by
 intro h nx σ w A hk hA
 simp only[RelL]at hA
 obtain⟨V,L,rfl,hV,rfl⟩:=hA
 unfold CR
 rw[xok_of' (e:=Extern.AbiNoEscape.same) (fn:=Tryz.f86) (by kernel_rfl) (by kernel_rfl) (by kernel_rfl) (by kernel_rfl) (by kernel_rfl)]
 exact⟨σ,v,h,nx,hV,.refl hk,rfl,rfl,rfl⟩
theorem byteV_u8 (b:UInt8):byteV (.int .u8 (b.toNat:Int))=some b.toNat:=by
 have h:b.toNat<256:=b.toNat_lt
 have h2:Nat.ble b.toNat 255=true:=Nat.ble_eq_true_of_le (by omega)
 show (match Nat.ble b.toNat 255 with |true=>some b.toNat |false=>none)=_
 rw[h2]
theorem cellsN_Y:∀l:List UInt8,∃z,cellsN (encY l)=some z
 |[]=>⟨0,rfl⟩
 |b::l=>by
  obtain⟨z,hz⟩:=cellsN_Y l
  refine⟨b.toNat+256 * z,?_⟩
  rw[show encY (b::l)=.int .u8 (b.toNat:Int)::encY l from rfl,cellsN_cons,byteV_u8,hz]
  rfl
theorem relL_Y (σ:Sg):∀l:List UInt8,RelL σ (encY l) (l.map fun b=>Value.int .u8 (b.toNat:Int))
 |[]=>by simp only[encY,List.map_nil,RelL]
 |b::l=>by
  rw[show encY (b::l)=.int .u8 (b.toNat:Int)::encY l from rfl]
  simp only[RelL,List.map_cons]
  exact⟨_,_,rfl,by simp only[Rel],relL_Y σ l⟩
theorem strB_Y {l:List UInt8}{z:Nat}(hz:cellsN (encY l)=some z):strB l.length z=⟨l.toArray⟩:=by
 obtain⟨_,ns,h1,h2⟩:=cellsN_spec (relL_Y ⟨fun _=>none,fun _=>0,fun _=>.nilFunc,fun _=>none⟩ l) hz
 rw[encY_len]at h2
 unfold strB
 rw[← h2]
 have h3:ns=l.map fun b=>(b.toNat:Int):=by
  have:=congrArg (List.map fun v=>match v with |Value.int _ n=>n |_=>0) h1
  simpa[Function.comp_def]using this.symm
 rw[h3,List.map_map]
 congr 2
 have:(fun z=>UInt8.ofNat (Int.toNat z)) ∘ (fun b:UInt8=>(b.toNat:Int))=id:=by
  funext b
  simp
 rw[this,List.map_id]
def unsafeB (B:Option ABlk) (e i n:Nat)(h:Tr ABlk) (nx:Nat):R:=match B with
 |some (.cells e' m c _ _)=>match Nat.beq e' e && Nat.beq 0 0 && Nat.ble n m && Nat.ble n 4611686018427387904 with
  |false=>.fail
  |true=>match getN c n 0 with
   |none=>.fail
   |some l=>match cellsN l with
    |none=>.fail
    |some z=>.val (.str n z) (h.put i none) nx
 |_=>.fail
@[go_sem] theorem evUnsafeStr_ptr (e a b:Nat)(c:Option AV) (x:Nat)(y:Bool)(fs:List (Nat×Nat×Bool)) (i n:Nat)(h:Tr ABlk) (nx:Nat)(hn:n≠0):
  evUnsafeStr (.mk (.pointer e) a b c ((x,1,y)::fs)) (.ptr i 0) (.int .i64 (n:Int)) h nx=unsafeB (h.get i) e i n h nx:=by
 have h0:Nat.beq n 0=false:=by cases n;exact absurd rfl hn;rfl
 show (match Nat.beq n 0 with
    |true=>R.val (.str 0 0) h nx
    |false=>match h.get i with
      |some (.cells e' m c _ _)=>match Nat.beq e' e && Nat.beq 0 0 && Nat.ble n m && Nat.ble n 4611686018427387904 with
       |false=>.fail
       |true=>match getN c n 0 with
        |none=>.fail
        |some l=>match cellsN l with
         |none=>.fail
         |some z=>fN z fun z=>h.putK none i fun h'=>.val (.str n z) h' nx
      |_=>.fail)=_
 rw[h0]
 unfold unsafeB
 cases h.get i with
 |none=>rfl
 |some B=>
  cases B <;> try rfl
  simp only[fN_eq,Tr.putK_eq]
@[go_sem] theorem unsafeB_bx (t e i n z:Nat)(L:List AV)(opn:Bool) (esz:Nat)(h:Tr ABlk) (nx:Nat)(ht:t=e)(hn:n=L.length)(hz:cellsN L=some z)(hb:n≤4611686018427387904):unsafeB (some (bx t L opn esz)) e i n h nx=.val (.str n z) (h.put i none) nx:=by
 subst ht
 subst hn
 have e1:=getN_putN L L.length 0 (by omega)
 rw[List.drop_zero,List.take_length]at e1
 simp[unsafeB,bx,nble,hb,e1,hz]
theorem ft46:cx.ft.get 46=some Tryz.f46:=cxS_ft (by decide) (by kernel_rfl)
theorem ft15:cx.ft.get 15=some Tryz.f15:=cxS_ft (by decide) (by kernel_rfl)
theorem ft22:cx.ft.get 22=some Tryz.f22:=cxS_ft (by decide) (by kernel_rfl)
def BuSt (h:Tr ABlk) (nx a q:Nat)(l:List UInt8):Prop:=a<nx∧((l=[]∧h.get a=some (bx 55 [.ptr0,.sl0] false 0))∨(l≠[]∧q<nx∧q≠a∧h.get a=some (bx 55 [.ptr a 0,.sl q 0 l.length 0 true] false 0)∧h.get q=some (bx 5 (encY l) true 1)))
theorem lies192:cx.lies 55 1 0 55=true:=by kernel_rfl
def toB (B:Option ABlk) (i o:Nat)(h:Tr ABlk) (nx:Nat):R:=match B with
 |some (.cells _ n _ _ _)=>match Nat.ble (Nat.succ o) n with
  |true=>.val (.ptr i o) h nx
  |false=>.fail
 |_=>.fail
@[go_sem] theorem evTo_ptr (e a b:Nat)(c:Option AV) (x s:Nat)(y:Bool)(fs:List (Nat×Nat×Bool)) (i o:Nat)(h:Tr ABlk) (nx:Nat)(hs:s≠0):evTo (.mk (.pointer e) a b c ((x,s,y)::fs)) (.ptr i o) h nx=toB (h.get i) i o h nx:=by
 have h0:Nat.beq s 0=false:=by cases s;exact absurd rfl hs;rfl
 simp only[evTo,h0]
 rfl
@[go_sem] theorem toB_bx (i o t esz:Nat)(l:List AV)(opn:Bool)(h:Tr ABlk) (nx:Nat)(ho:o<l.length):toB (some (bx t l opn esz)) i o h nx=.val (.ptr i o) h nx:=by
 simp[toB,bx,nble,Nat.succ_le_of_lt ho]
def backB (c:Cx)(B:Option ABlk) (u i o:Nat)(h:Tr ABlk) (nx:Nat):R:=match B with
 |some (.cells e n _ false _)=>match c.tt.get e with
  |some (.mk _ se _ _ _)=>match c.lies e (Nat.div n se) o u with
   |true=>.val (.ptr i o) h nx
   |false=>.fail
  |none=>.fail
 |_=>.fail
@[go_sem] theorem evBack_ptr (c:Cx) (d u a b:Nat)(z:Option AV)(x:Nat×Nat×Bool)(fs:List (Nat×Nat×Bool)) (i o:Nat)(h:Tr ABlk) (nx:Nat):evBack c d (.mk (.pointer u) a b z (x::fs)) (.ptr i o) h nx=backB c (h.get i) u i o h nx:=rfl
@[go_sem] theorem backB_192 (i:Nat)(x y:AV) (esz:Nat)(h:Tr ABlk) (nx:Nat):backB cx (some (bx 55 [x,y] false esz)) 55 i 0 h nx=.val (.ptr i 0) h nx:=by
 have h1:=tt55
 simp only[backB,bx,h1]
 have h2:Nat.div [x,y].length 2=1:=by show Nat.div 2 2=1;decide
 rw[h2,lies192]
@[go_sem] theorem bSD_own (i o l:Nat)(h:Tr ABlk) (nx:Nat)(hl:l≠0):bSD [.sl i o l 0 true] h nx=.val (.ptr i o) h nx:=by
 have:Nat.ble 1 l=true:=Nat.ble_eq_true_of_le (by omega)
 show (match Nat.ble 1 l with |true=>R.val (.ptr i o) h nx |false=>.fail)=_
 rw[this]
@[go_sem] theorem bUS_eq (c:Cx)(t u:TypeId)(a b:AV)(h:Tr ABlk) (nx:Nat):bUS c (List.toArray [t,u]) [a,b] h nx=bR (c.tt.get t) fun ti=>evUnsafeStr ti a b h nx:=rfl
theorem check_c (a:Nat)(x y:AV)(hx:x=.ptr0∨x=.ptr a 0)(h:Tr ABlk) (nx:Nat)(ha:h.get a=some (bx 55 [x,y] false 0))(R:AV→Tr ABlk→Nat→Prop)(hR:∀g,g.get a=some (bx 55 [.ptr a 0,y] false 0)→(∀k,k≠a→g.get k=h.get k)→R (.tup []) g nx):ACall Tryz.prog cx 46 [.ptr a 0] h nx R:=by
 refine ACall_mk (sz:=20) (rs:=[]) cxok ft46 rfl rfl rfl (by simp) ?_
 rcases hx with rfl |rfl
 ·simp[go_sem,ha]
  refine Ret.use (noEsc_c _) ?_
  simp[go_sem,goOn_some,ha,segL]
  exact hR _ (by simp[go_sem]) (fun k hk=>by simp[go_sem,hk])
 ·simp[go_sem,ha]
  exact hR _ ha (fun k hk=>rfl)
set_option maxHeartbeats 1000000 in
theorem writeString_c (h:Tr ABlk) (nx a q:Nat)(l:List UInt8)(s:ByteArray)(hs:s.size≠0)(hl:l.length+s.size≤16777216)(hB:BuSt h nx a q l)(R:AV→Tr ABlk→Nat→Prop)
  (hR:∀v g ny q',nx≤ny→(∀k,k<nx→k≠a→k≠q→g.get k=h.get k)→nx≤q'→BuSt g ny a q' (l++s.data.toList)→R v g ny):ACall Tryz.prog cx 15 [.ptr a 0,.bs s] h nx R:=by
 refine ACall_mk (sz:=19) (rs:=[.tmp 4,.tmp 5]) cxok ft15 rfl rfl rfl (by simp) ?_
 have fo:=encY_one s.data.toList
 have hsl:s.data.toList.length=s.size:=by simp
 have hsn:s.data.toList≠[]:=fun e=>hs (by rw[← hsl,e];rfl)
 obtain⟨ha0,⟨rfl,ga⟩ |⟨h1,hq0,hqa,ga,gq⟩⟩:=hB
 ·simp only[List.length_nil,Nat.zero_add]at hl
  simp[go_sem]
  refine check_c a _ _ (.inl rfl) h nx ga _ fun g g1 g2=>?_
  have n1:¬a=nx:=by omega
  simp[go_sem,goOn_some,g1,fo,hs,hl,n1,segL]
  refine hR _ _ _ nx (by omega) (fun k k1 k2 k3=>?_) (by omega) ⟨by omega,.inr ⟨by simpa using hsn,by omega,by omega,?_,?_⟩⟩
  ·simp[go_sem,k2,show ¬k=nx by omega]
   exact g2 k k2
  ·simp[go_sem]
  ·simp[go_sem,show ¬nx=a by omega]
 ·simp[go_sem]
  refine check_c a _ _ (.inr rfl) h nx ga _ fun g g1 g2=>?_
  have n1:¬a=nx:=by omega
  have n2:¬a=q:=fun e=>hqa e.symm
  have gq':g.get q=some (bx 5 (encY l) true 1):=by rw[g2 q hqa];exact gq
  have fo2:=encY_one l
  simp[go_sem,goOn_some,g1,gq',fo,hl,n1,n2,segL]
  refine hR _ _ _ nx (by omega) (fun k k1 k2 k3=>?_) (by omega) ⟨by omega,.inr ⟨by simp[h1],by omega,by omega,?_,?_⟩⟩
  ·simp[go_sem,k2,k3,show ¬k=nx by omega]
   exact g2 k k2
  ·simp[go_sem]
  ·simp[go_sem,show ¬nx=a by omega,encY_app]
@[go_sem] theorem fpO_call (callee:Callee)(x:Operand)(l:List Operand)(ats:Array TypeId):fpO (.call ⟨callee,List.toArray (x::l),ats⟩)=some x:=rfl
@[go_sem] theorem keepsN_sl (i o l c:Nat)(b:Bool)(h h':Tr ABlk):keepsN (some (.sl i o l c b)) h h'=(h'.get i=h.get i):=rfl
set_option maxHeartbeats 1000000 in
theorem string_c (h:Tr ABlk) (nx a q:Nat)(l:List UInt8)(hne:l≠[])(hl:l.length≤16777216)(hB:BuSt h nx a q l)(R:AV→Tr ABlk→Nat→Prop)(hR:R (.bs ⟨l.toArray⟩) (h.put q none) nx):ACall Tryz.prog cx 22 [.ptr a 0] h nx R:=by
 obtain⟨ha0,⟨e,ga⟩ |⟨h1,hq0,hqa,ga,gq⟩⟩:=hB
 ·exact absurd e hne
 obtain⟨z,hz⟩:=cellsN_Y l
 have hsb:=strB_Y hz
 refine ACall.wkR (R:=fun v g ny=>v=.str l.length z∧g=h.put q none∧ny=nx) ?_ ?_
 ·refine ACall_mk (sz:=14) (rs:=[.tmp 2]) cxok ft22 rfl rfl rfl (by simp) ?_
  have hl0:l.length≠0:=fun e=>hne (List.eq_nil_of_length_eq_zero e)
  have hl1:l.length≤4611686018427387904:=by omega
  simp[go_sem]
  refine AW_draw mixed cxok G0sym [4,10] [] [(8,4),(9,4)] (by kernel_rfl) ?_
  simp[go_sem,ga,gq,hz,hl0,hl1]
 ·rintro v g ny ⟨rfl,rfl,rfl⟩
  refine⟨.bs (strB l.length z),.str _ _,?_⟩
  rw[hsb]
  exact hR
end
end Go.Ev
namespace Go.Ev
open Go.Proofs Go.RowKit
noncomputable section
attribute [-go_sem] pPick lookRes evConvS evStrB
section
variable {P : Program} {c : Cx} {sz : Nat} {ops : List Oper} {dst : Option Tmp} {ty : TypeId} {pos : String} {aft : Array Edge} {K : AS → Prop} {tm : Tr AV} {h : Tr ABlk} {nx : Nat} {ds : List DE}
@[go_sem ↓] theorem awS_makeSlice (t:TypeId)(l cp:Operand):awS P c sz ops ⟨dst,.makeSlice t l cp,ty,pos,aft,none⟩ K (.mk tm h nx ds)=afterP sz dst tm ds K (pMakeSlice c t l cp tm h nx):=rfl
@[go_sem] theorem pMakeSlice_eq (t:TypeId)(l cp:Operand):pMakeSlice c t l cp tm h nx=bR (c.tt.get t) fun ti=>bR (evO c.G tm l) fun a=>bR (evO c.G tm cp) fun b=>evMakeSlice ti (c.tt.get (elemT ti)) (elemT ti) a b h nx:=rfl
end
@[go_sem] theorem evMakeSlice_zero (e a1 a2 b1 bytes n:Nat)(a3:Option AV)(a4 b4:List (Nat×Nat×Bool))(d2:TypeDesc)(z:AV)(k1:IntKind)(cp:AV)(h:Tr ABlk) (nx:Nat)(hi:idx cp=some n)(h1:n≤16777216)(h2:bytes≤16777216):
  evMakeSlice (.mk (.slice e) a1 a2 a3 a4) (some (.mk d2 b1 bytes (some z) b4)) e (.int k1 0) cp h nx=.val (.sl nx 0 0 0 true) (h.put nx (some (bx e [] true b1))) (nx+1):=by
 have h3:idx (.int k1 0)=some 0:=rfl
 have h4:Nat.ble 0 n=true:=Nat.ble_eq_true_of_le (by omega)
 simp[evMakeSlice,h3,hi,h4,Nat.beq_refl,nble,h1,h2,fN_eq,newO,Tr.putK_eq]
 rfl
def qB (c:UInt8):List UInt8:=if c=10 then [92,110] else if c=34∨c=92 then [92,c] else [c]
def quoteB (s:ByteArray):ByteArray:=⟨(34::(s.data.toList.flatMap qB++[34])).toArray⟩
theorem qB_len (c:UInt8):(qB c).length≤2:=by
 unfold qB
 repeat' split
 all_goals simp
theorem qL_len:∀l:List UInt8,(l.flatMap qB).length≤2 * l.length
 |[]=>by simp
 |c::l=>by
  have h1:=qB_len c
  have h2:=qL_len l
  simp only[List.flatMap_cons,List.length_append,List.length_cons]
  omega
set_option maxHeartbeats 2000000 in
theorem quote_c (s:ByteArray)(hs:s.size≤1000000):Ret Tryz.prog cx 27 [.bs s] (.bs (quoteB s)):=by
 refine Ret.mk fun h nx R hR=>ACall_mk (sz:=45) (rs:=[.tmp 2]) cxok ft27 rfl rfl rfl (by simp) ?_
 have hF:∀b g ny,Ext nx h g→b=quoteB s→R (.bs b) g ny:=fun z g ny hE e=>hR _ _ _ hE (Fz.eq rfl (by rw[e]))
 have hF':=Lib.hid hF
 clear hF hR
 have w1:IntKind.i64.wrap (2 * (s.size:Int))=2 * (s.size:Int):=i64wrap _ (by omega) (by omega)
 have w2:IntKind.i64.wrap (2 * (s.size:Int)+2)=2 * (s.size:Int)+2:=i64wrap _ (by omega) (by omega)
 have i1:idx (.int .i64 (2 * (s.size:Int)+2))=some (2 * s.size+2):=idx_nat .i64 (2 * s.size+2)
 have b1:2 * s.size+2≤16777216:=by omega
 simp[go_sem,w1,w2,i1,b1]
 refine AW_rounds (fun mm st=>∃tm k g ny q L,st=.mk tm g ny []∧mm=s.size-k∧k≤s.size∧tm.get 0=some (.bs s)∧tm.get 3=some (.sl q 0 (List.length L) 0 true)∧tm.get 4=some (.int .i64 (k:Int))∧nx≤q∧q<ny∧g.get q=some (bx 5 (encY L) true 1)∧Ext nx h g∧RowKit.Hid (L=34::(s.data.toList.take k).flatMap qB)) ⟨s.size,_,0,_,_,nx+1+1,[34],rfl,rfl,by omega,?_⟩ ?_
 ·simp(disch:=omega)only[ext_put]
  simp[go_sem]
  exact⟨by omega,rfl,Ext.refl _ _,Lib.hid trivial⟩
 ·rintro mm st ⟨tm,k,g,ny,q,L,rfl,rfl,hk,t0,t3,t4,q0,q1,hq,hE,hv⟩ J hJ
  refine aw_ok cxok _ ?_
  clear w1 w2 i1 b1
  have hLl:L.length≤1+2 * k:=by
   rw[hv.out]
   have:=qL_len (s.data.toList.take k)
   simp only[List.length_cons,List.length_take]at this ⊢
   omega
  have fo:=encY_one L
  have n1:¬q=ny:=by omega
  have n2:¬ny=q:=by omega
  have n3:¬q=ny+1:=by omega
  by_cases c1:k<s.size
  ·have ht:s.data.toList.take (k+1)=s.data.toList.take k++[s[k]]:=by
    have:k<s.data.toList.length:=by simpa using c1
    rw[List.take_succ_eq_append_getElem this]
    rfl
   have hgo:∀tm' g' ny' q' L',L'=L++qB s[k]→tm'.get 0=some (.bs s)→tm'.get 3=some (.sl q' 0 (List.length L') 0 true)→tm'.get 4=some (.int .i64 ((k:Int)+1))→nx≤q'→q'<ny'→g'.get q'=some (bx 5 (encY L') true 1)→Ext nx h g'→J (.mk tm' g' ny' []):=fun tm' g' ny' q' L' e g0 g3 g4 h1 h2 h3 h4=>
    hJ (s.size-(k+1)) _ (by omega) ⟨tm',k+1,g',ny',q',L',rfl,rfl,by omega,g0,g3,by rw[g4];rfl,h1,h2,h3,h4,Lib.hid (by rw[e,hv.out,ht,List.flatMap_append];simp)⟩
   have hgo':=Lib.hid hgo
   clear hgo hJ hF' hv
   have wI:IntKind.i64.wrap ((k:Int)+1)=(k:Int)+1:=i64wrap _ (by omega) (by omega)
   have l2:L.length+2≤16777216:=by omega
   have l1:L.length+1≤16777216:=by omega
   generalize hx:s[k]=x at hgo'
   by_cases c:x=10
   ·subst c
    simp[go_sem,t0,t3,t4,c1,hx,hq,fo,n1,n2,n3,l1,l2,wI,segL]
    refine hgo'.out _ _ _ (ny+1) (L++[92,110]) rfl (by simp[go_sem,t0]) (by simp[go_sem]) (by simp[go_sem,t4,wI]) (by omega) (by omega) (by simp[go_sem,encY_app];rfl) ?_
    simp(disch:=omega)only[ext_put]
    exact hE
   ·have u8n:∀y:UInt8,x≠y→¬x.toNat=y.toNat:=fun y e q=>e (UInt8.toNat_inj.1 q)
    have cN:¬x.toNat=10:=u8n 10 c
    have n4:¬ny+1=ny+2:=by omega
    have l4:L.length+1+1≤16777216:=by omega
    by_cases c3:x=34
    ·subst c3
     simp[go_sem,t0,t3,t4,c1,hx,hq,fo,n1,n2,n3,n4,l1,l4,wI,segL]
     refine hgo'.out _ _ _ (ny+1+1+1) (L++[92,34]) rfl (by simp[go_sem,t0]) (by simp[go_sem]) (by simp[go_sem,t4,wI]) (by omega) (by omega) (by simp[go_sem,encY_app];rfl) ?_
     simp(disch:=omega)only[ext_put]
     exact hE
    ·have dN:¬x.toNat=34:=u8n 34 c3
     by_cases c4:x=92
     ·subst c4
      simp[go_sem,t0,t3,t4,c1,hx,hq,fo,n1,n2,n3,n4,l1,l4,wI,segL]
      refine hgo'.out _ _ _ (ny+1+1+1) (L++[92,92]) rfl (by simp[go_sem,t0]) (by simp[go_sem]) (by simp[go_sem,t4,wI]) (by omega) (by omega) (by simp[go_sem,encY_app];rfl) ?_
      simp(disch:=omega)only[ext_put]
      exact hE
     ·have eN:¬x.toNat=92:=u8n 92 c4
      have cI:¬(x.toNat:Int)=10:=by omega
      have dI:¬(x.toNat:Int)=34:=by omega
      have eI:¬(x.toNat:Int)=92:=by omega
      simp[go_sem,t0,t3,t4,c1,hx,hq,fo,n1,n2,n3,l1,wI,segL,cN,dN,eN,cI,dI,eI]
      refine hgo'.out _ _ _ (ny+1) (L++[x]) (by unfold qB;rw[if_neg c,if_neg (by simp[c3,c4])]) (by simp[go_sem,t0]) (by simp[go_sem]) (by simp[go_sem,t4,wI]) (by omega) (by omega) (by simp[go_sem,encY_app];rfl) ?_
      simp(disch:=omega)only[ext_put]
      exact hE
  ·have l1:L.length+1≤16777216:=by omega
   have e1:s.data.toList.take k=s.data.toList:=List.take_of_length_le (by simp;omega)
   rw[e1]at hv
   have hb:bytesS (encY L++[AV.int .u8 34])=some (L++[34]):=by
    have:=bytesS_Y (L++[34])
    rw[encY_app]at this
    exact this
   have htk:(encY L++[AV.int .u8 34]).take (L.length+1)=encY L++[AV.int .u8 34]:=List.take_of_length_le (by simp[encY_len])
   simp[go_sem,t0,t3,t4,c1,hq,fo,n1,n2,n3,l1,segL,htk,hb]
   refine hF'.out _ _ _ ?_ ?_
   ·simp(disch:=omega)only[ext_put]
    exact hE
   ·unfold quoteB
    rw[hv.out]
    simp
end
end Go.Ev
