/- Texts. -/
import Derived.Test.YtkdnmldmffkkoaaGreatDoorP18
set_option linter.unusedSimpArgs false
set_option linter.unusedVariables false
set_option maxRecDepth 100000
set_option maxHeartbeats 8000000
namespace Go.Ev
open Go.Proofs Go.Sort
noncomputable section
attribute [-go_sem] dw bP
theorem zU7:cx.ft.get 290=some Tryz.f290:=aT (by decide) (by kernel_rfl)
theorem zM4:cx.ft.get 306=some Tryz.f306:=aT (by decide) (by kernel_rfl)
theorem zK9:cx.ft.get 307=some Tryz.f307:=aT (by decide) (by kernel_rfl)
theorem zPb:cx.ft.get 277=some Tryz.f277:=aT (by decide) (by kernel_rfl)
theorem zM0:cx.ft.get 276=some Tryz.f276:=aT (by decide) (by kernel_rfl)
theorem zIn:cx.ft.get 278=some Tryz.f278:=aT (by decide) (by kernel_rfl)
def bM (l:List UInt8):List AV:=l.map fun z=>.int .u8 (z.toNat:Int)
@[go_sem] theorem tD (l:List UInt8):(bM l).length=l.length:=by simp[bM]
theorem uN:∀l:List UInt8,dB (bM l)=true
 |[]=>rfl
 |x::l=>by
  have:=uN l;rw[show bM (x::l)=.int .u8 (x.toNat:Int)::bM l from rfl];simp[dB,AV.one];exact this
theorem wB (l m:List UInt8):bM (l++m)=bM l++bM m:=by simp[bM]
@[go_sem] theorem ybk (b:ByteArray)(h:Tr ABlk):qE 1 (.bs b) h=some (b.size,bM b.data.toList):=rfl
theorem zOs (σ:Sg)(x:UInt8)(V:Value):av σ (.int .u8 (x.toNat:Int)) V↔V=.int .u8 (x.toNat:Int):=by simp only[av]
theorem zUv (u:Nat)(hu:u<18446744073709551616):ay Tryz.prog cx 290 [.int .u64 (u:Int)] (.int .i64 (Lib.bitLen u:Int)):=by
 refine fun h nx=>Z9 aE zU7 fun σ w A hk hA=>?_;simp only[aC,av]at hA;obtain⟨V,L,rfl,rfl,rfl⟩:=hA;refine(Any.bits_Len64 Tryz.lays129 (u:Int) w (by omega) (by omega)).mono ?_
 rintro e x ⟨rfl,rfl⟩
 exact⟨_,.int .i64 (Lib.bitLen u:Int),0,#[],rfl,by simp only[av,Int.toNat_natCast],⟨rfl,rfl,rfl⟩,by simp⟩
theorem zyw (i:Nat)(hi:i<100):ay Tryz.prog cx 276 [.int .i64 (i:Int)] (.bs ⟨(Lib.decDigits i).toArray⟩):=by
 refine fun h nx=>Z9 aE zM0 fun σ w A hk hA=>?_;simp only[aC,av]at hA;obtain⟨V,L,rfl,rfl,rfl⟩:=hA;refine(Any.internal_strconv_small Tryz.lays283 i hi w).mono ?_
 rintro e x ⟨rfl,rfl⟩
 exact⟨_,.bs ⟨(Lib.decDigits i).toArray⟩,0,#[],rfl,by simp only[av],⟨rfl,rfl,rfl⟩,by simp⟩
def dP (n u:Nat):List UInt8:=(List.range n).map fun t=>Lib.dg u (n-1-t)
theorem JW (n u:Nat):(dP n u).length=n:=by simp[dP]
theorem QI (h:Tr ABlk) (nx q u o n cp esz:Nat)(t:TypeId)(opn bu:Bool)(l:List UInt8)(hq:h.get q=some (bx t (bM l) bu esz))(hl:o+n≤l.length)(hn:n<1000000)(hu:u<10 ^ n)(jL:u<18446744073709551616)(R:AV→Tr ABlk→Nat→Prop)
  (hR:R (.tup []) (h.put q (some (bx t (bM (l.take o++(dP n u++l.drop (o+n)))) bu esz))) nx):aN Tryz.prog cx 278 [.sl q o n cp opn,.int .u64 (u:Int)] h nx R:=by
 refine zyj aE zIn (fun x:UInt8=>AV.int .u8 (x.toNat:Int)) (fun x:UInt8=>Value.int .u8 (x.toNat:Int)) (fun σ x V=>zOs σ x V) (l:=l) (rest:=[.int .u64 (u:Int)]) hq hl (fun d v=>d=dP n u∧v=.tup []) ?_ ?_
 ·intro σ w RA b cap hk pR hH hb;simp only[aC,av]at pR;obtain⟨V,L,rfl,rfl,rfl⟩:=pR;have bI:((l.drop o).take n).toArray.size=n:=by simp;omega
  have hc:=Any.internal_strconv_formatBase10 Tryz.lays285 b o cap u ((l.drop o).take n).toArray w hH (by rw[bI];exact hu) jL (by rw[bI];omega);rw[bI]at hc;refine hc.mono ?_
  rintro e x ⟨rfl,k,v',dk,rfl,hf⟩
  have hd:dk.toList=dP n u:=by
   have hs:=hf.size;apply List.ext_getElem (by simp[dP];exact hs);intro t h1 h2;have ht:t<n:=by simpa[dP]using h2
   have:=hf.done t (by omega) ht;rw[getElem!_pos _ t (by omega)]at this;simp[dP,this]
  refine⟨_,.tup [],k,#[],dP n u,rfl,by simp only[av];exact⟨[],rfl,by simp only[aC]⟩,JW n u,⟨rfl,rfl⟩,?_⟩;rw[← hd];rfl
 ·rintro d v _ ⟨rfl,rfl⟩
  exact hR
theorem zT6 (k:IntKind) (a n:Nat)(h:Tr ABlk) (nx:Nat):tz .shr k (a:Int) (n:Int) h nx=.val (.int k ((a / 2 ^ (min n k.bits):Nat):Int)) h nx:=by
 show fN (Nat.div a (Nat.pow 2 (min n k.bits))) (fun z=>R.val (.int k (Int.ofNat z)) h nx)=_;rw[fN_eq];rfl
@[go_sem] theorem zV4 (a:Nat)(h:Tr ABlk) (nx:Nat):tz .shr .i64 (a:Int) 18 h nx=.val (.int .i64 ((a / 262144:Nat):Int)) h nx:=zT6 .i64 a 18 h nx
theorem zMr (n:Nat)(hn:n≤64):ay Tryz.prog cx 306 [.int .i64 (n:Int)] (.int .i64 (Lib.l10 n:Int)):=by
 refine ay.mk fun h nx R hR=>aV (sz:=6) (rs:=[.tmp 2]) aE zM4 rfl rfl rfl (by simp) ?_;have e1:IntKind.i64.wrap ((n:Int) * 78913)=((n * 78913:Nat):Int):=by
  rw[aY] <;> omega
 simp-implicitDefEqProofs[go_sem,-Int.natCast_mul,e1];exact hR _ _ _ (aA.refl _ _) (Fz.eq rfl rfl)
theorem zUb (b:Bool):ay Tryz.prog cx 307 [.bool b] (.int .i64 (if b then 1 else 0)):=by
 refine ay.mk fun h nx R hR=>aV (sz:=4) (rs:=[.tmp 2]) aE zK9 rfl rfl rfl (by simp) ?_;cases b
 ·simp-implicitDefEqProofs[go_sem];exact hR _ _ _ (aA.refl _ _) (Fz.eq rfl rfl)
 ·simp-implicitDefEqProofs[go_sem];exact hR _ _ _ (aA.refl _ _) (Fz.eq rfl rfl)
theorem zSt (n:Nat)(hn:n<20):wN.drop n=.int .u64 ((10 ^ n:Nat):Int)::wN.drop (n+1):=by
 have hl:n<wN.length:=by simp[wN];exact hn
 rw[aj hl];simp[wN]
@[go_sem] theorem zYm (tm:Tr AV):aM G0 tm (.global 0)=some (.ip wN):=rfl
theorem Sb (u:Nat)(h1:1≤u)(hu:u<18446744073709551616):ay Tryz.prog cx 277 [.int .u64 (u:Int)] (.int .i64 (Lib.nDigits u:Int)):=by
 refine ay.mk fun h nx R hR=>aV (sz:=15) (rs:=[.tmp 2]) aE zPb rfl rfl rfl (by simp) ?_;obtain⟨d1,d2⟩:=Lib.numDigits_eq u h1 hu;have d3:=Lib.bitLen_le u 64 (ae _) hu;simp-implicitDefEqProofs[go_sem];refine ay.use (zUv u hu) ?_;simp-implicitDefEqProofs[go_sem,aB];refine ay.use (zMr _ d3) ?_;have hd:=zSt (Lib.l10 (Lib.bitLen u)) (by omega);generalize Lib.l10 (Lib.bitLen u)=q at *;have hq:q<20:=by omega
 simp-implicitDefEqProofs[go_sem,aB,hq,hd];refine ay.use (zUb _) ?_;simp-implicitDefEqProofs[go_sem,aB];refine hR _ _ _ (aA.refl _ _) (Fz.eq rfl ?_);have hc:((10:Int) ^ q≤(u:Int))↔10 ^ q≤u:=by
  have:((10:Int) ^ q)=((10 ^ q:Nat):Int):=by simp
  rw[this];omega
 simp only[hc]
 congr 1
 by_cases c:10 ^ q≤u
 ·rw[if_pos c]at d1 ⊢;rw[aY] <;> omega
 ·rw[if_neg c]at d1 ⊢;rw[aY] <;> omega
theorem Qh (u:Nat):Lib.decDigits u=dP (Lib.nDigits u) u:=Lib.decDigits_eq u
theorem G7 (u:Nat)(h1:1≤u)(hu:u<18446744073709551616):Lib.nDigits u≤20:=by
 obtain⟨d1,d2⟩:=Lib.numDigits_eq u h1 hu;split at d1 <;> omega
theorem zK2:cx.ft.get 305=some Tryz.f305:=aT (by decide) (by kernel_rfl)
theorem zK7:cx.ft.get 274=some Tryz.f274:=aT (by decide) (by kernel_rfl)
theorem zFz:cx.ft.get 252=some Tryz.f252:=aT (by decide) (by kernel_rfl)
def tv (h:Tr ABlk) (nx q:Nat)(v:AV)(l:List UInt8):Prop:=q<nx∧((v=.sl q 0 l.length 0 true∧h.get q=some (bx 5 (bM l) true 1))∨(v=.sl q 0 l.length l.length false∧h.get q=some (bx 5 (bM l) false 0)))
theorem Rk (u:Nat):u<10 ^ Lib.nDigits u:=Lib.lt_pow_nDigits u
def Ld (B:Option ABlk) (len m:Nat)(news:List AV) (e size:Nat)(h:Tr ABlk) (nx:Nat):R:=match B with
 |some (.cells _ n cs _ _)=>match Nat.ble (Nat.add len m) 16777216 with
  |false=>.fail
  |true=>match Nat.ble (Nat.add 0 (Nat.mul len size)) n with
   |false=>.fail
   |true=>.val (.sl nx 0 (len+m) 0 true) (h.put nx (some (bx e (((toL cs n).drop 0).take (Nat.mul len size)++news) true size))) (nx+1)
 |_=>.fail
@[go_sem] theorem ybn (m len i e size:Nat)(news:List AV)(h:Tr ABlk) (nx:Nat)(h0:m≠0):mv true m news e size (.sl i 0 len len false) h nx=Ld (h.get i) len m news e size h nx:=by
 have e0:Nat.beq m 0=false:=by cases m;exact absurd rfl h0;rfl
 have e5:Nat.beq len len=true:=Nat.beq_refl len;simp only[mv,Ld,e0,e5,Bool.true_and];cases h.get i with
 |none=>rfl
 |some B=>
  cases B <;> rfl
@[go_sem] theorem zXv (m len e t size esz:Nat)(opn:Bool)(news l:List AV)(h:Tr ABlk) (nx:Nat)(h1:len * size=l.length)(h2:len+m≤16777216):Ld (some (bx t l opn esz)) len m news e size h nx=.val (.sl nx 0 (len+m) 0 true) (h.put nx (some (bx e (l++news) true size))) (nx+1):=by
 have e3:toL (ef l .nil 0) l.length=l:=by
  apply List.ext_getElem?;intro k
  by_cases hk:k<l.length
  ·simp[toL,hk,fx]
  ·simp[toL,hk]
 have e4:Nat.mul len size=l.length:=h1;have e6:Nat.ble (Nat.add 0 l.length) l.length=true:=Nat.ble_eq_true_of_le (by show 0+l.length≤_;omega);have e7:Nat.ble (Nat.add len m) 16777216=true:=Nat.ble_eq_true_of_le h2;simp only[Ld,bx,e3,e4,e6,e7,List.drop_zero,List.take_length]
@[go_sem] theorem zVq (G:Gl)(tm:Tr AV):uH G tm none=some none:=rfl
@[go_sem] theorem zZe (G:Gl)(tm:Tr AV)(o:Operand):uH G tm (some o)=match aM G tm o with
 |some v=>some (some v)
 |none=>none:=rfl
theorem X8 (h:Tr ABlk) (nx q:Nat)(v:AV)(l:List UInt8) (u:Nat)(hq:tv h nx q v l)(hl:l.length≤16000000)(hu:u<18446744073709551616)(R:AV→Tr ABlk→Nat→Prop)
  (hR:∀g ny q',nx≤ny→nx≤q'→(∀k,k<nx→k≠q→g.get k=h.get k)→tv g ny q' (.sl q' 0 (l++Lib.decDigits u).length 0 true) (l++Lib.decDigits u)→R (.sl q' 0 (l++Lib.decDigits u).length 0 true) g ny):aN Tryz.prog cx 305 [v,.int .u64 (u:Int),.int .i64 10] h nx R:=by
 refine aV (sz:=36) (rs:=[.tmp 6]) aE zK2 rfl rfl rfl (by simp) ?_;obtain⟨qk,hq⟩:=hq;have e1:¬q=nx:=by omega
 have fo:=uN l
 by_cases c:u<100
 ·have w1:IntKind.i64.wrap (u:Int)=(u:Int):=by rw[aY] <;> omega
  have hi:((u:Int)<100):=by omega
  simp-implicitDefEqProofs[go_sem,hi,w1];refine ay.use (zyw u c) ?_;have tR:=uN (Lib.decDigits u);have hz:(Lib.decDigits u).length≠0:=by
   have:=Lib.nDigits_pos u;rw[Lib.decDigits_length];omega
  have Cw:(Lib.decDigits u).length≤2:=by
   rcases Nat.lt_or_ge u 10 with c1 |c1
   ·rw[Lib.decDigits_one c1];simp
   ·rw[Lib.decDigits_two (by omega) c];simp
  have we:l.length+(Lib.decDigits u).length≤16777216:=by omega
  rcases hq with⟨rfl,gq⟩ |⟨rfl,gq⟩
  ·simp-implicitDefEqProofs[go_sem,aB,gq,tR,we];have:=hR ((h.put q none).put nx (some (bx 5 (bM l++bM (Lib.decDigits u)) true 1))) (nx+1) nx (by omega) (by omega) (fun k k1 k2=>by simp[go_sem,k2,show ¬k=nx by omega]) ⟨by omega,.inl ⟨rfl,by simp[go_sem,wB]⟩⟩;simpa using this
  ·simp-implicitDefEqProofs[go_sem,aB,gq,tR,hz,we];have:=hR (h.put nx (some (bx 5 (bM l++bM (Lib.decDigits u)) true 1))) (nx+1) nx (by omega) (by omega) (fun k k1 k2=>by simp[go_sem,show ¬k=nx by omega]) ⟨by omega,.inl ⟨rfl,by simp[go_sem,wB]⟩⟩;simpa using this
 ·have hi:¬((u:Int)<100):=by omega
  have n20:=G7 u (by omega) hu;have n1:=Lib.nDigits_pos u;have nlt:=Rk u;have EZ:=Qh u;have pV:=JW (Lib.nDigits u) u;simp-implicitDefEqProofs[go_sem,hi];refine ay.use (Sb u (by omega) hu) ?_;generalize Lib.nDigits u=n at *;have n24:n≤24:=by omega
  simp-implicitDefEqProofs[go_sem,aB,n24];refine QI _ _ nx u 0 n 24 0 289 false false (List.replicate 24 0) (by simp only[Tr.get_put,if_true];rfl) (by simp;omega) (by omega) nlt hu _ ?_;have tR:=uN (dP n u);have hz:n≠0:=by omega
  have we:l.length+n≤16777216:=by omega
  have eU:(List.take 0 (List.replicate 24 (0:UInt8))++(dP n u++List.drop (0+n) (List.replicate 24 0)))=dP n u++List.replicate (24-n) 0:=by rw[List.drop_replicate];simp
  rw[eU];have dM:(bM (dP n u++List.replicate (24-n) 0)).take n=bM (dP n u):=by
   rw[wB];have:=tD (dP n u);rw[pV]at this;exact List.take_left' this
  have qe:n≤(bM (dP n u++List.replicate (24-n) 0)).length:=by simp[tD,pV]
  rw[EZ]at hR;generalize bM (dP n u++List.replicate (24-n) 0)=SX at dM qe
  rcases hq with⟨rfl,gq⟩ |⟨rfl,gq⟩
  ·simp-implicitDefEqProofs[go_sem,aB,gq,tR,hz,we,e1,n24,dM,qe];rw[show l.length+n=(l++dP n u).length by simp[pV]];refine hR _ _ (nx+1) (by omega) (by omega) (fun k k1 k2=>?_) ⟨by omega,.inl ⟨rfl,?_⟩⟩
   ·simp[go_sem,k2,show ¬k=nx by omega,show ¬k=nx+1 by omega]
   ·simp[go_sem,wB]
  ·simp-implicitDefEqProofs[go_sem,aB,gq,tR,hz,we,e1,n24,dM,qe];rw[show l.length+n=(l++dP n u).length by simp[pV]];refine hR _ _ (nx+1) (by omega) (by omega) (fun k k1 k2=>?_) ⟨by omega,.inl ⟨rfl,?_⟩⟩
   ·simp[go_sem,show ¬k=nx by omega,show ¬k=nx+1 by omega]
   ·simp[go_sem,wB]
theorem zxs (x:Int)(h1:0≤x)(h2:x≤18446744073709551615):IntKind.u64.wrap x=x:=by
 have:=IntWalk.u64_in x;exact this (by omega)
theorem Z8 (u:Nat)(h1:1≤u)(h2:u≤9223372036854775808):IntKind.u64.wrap (-IntKind.u64.wrap (-(u:Int)))=(u:Int):=by
 simp only[IntKind.wrap,IntKind.signed,IntKind.bits];simp;omega
@[go_sem] theorem yd5 (k:IntKind) (n:Int)(h:Tr ABlk) (nx:Nat):uY .neg (.int k n) h nx=.val (.int k (k.wrap (-n))) h nx:=by
 show fI (nQ k (Int.sub 0 n)) (fun z=>R.val (.int k z) h nx)=_;rw[fI_eq,pE,show Int.sub 0 n=-n from Int.zero_sub n]
theorem zGm (h:Tr ABlk) (nx q:Nat)(v:AV)(l:List UInt8) (i:Int)(hq:tv h nx q v l)(hl:l.length≤15000000)(h0:-9223372036854775808≤i)(h1:i≤9223372036854775807)(R:AV→Tr ABlk→Nat→Prop)
  (hR:∀g ny q',nx≤ny→nx≤q'→(∀k,k<nx→k≠q→g.get k=h.get k)→tv g ny q' (.sl q' 0 (l++Lib.itoa i).length 0 true) (l++Lib.itoa i)→R (.sl q' 0 (l++Lib.itoa i).length 0 true) g ny):aN Tryz.prog cx 274 [v,.int .i64 i,.int .i64 10] h nx R:=by
 refine aV (sz:=21) (rs:=[.tmp 6]) aE zK7 rfl rfl rfl (by simp) ?_
 by_cases c:i<0
 ·obtain⟨u,hu⟩:∃u:Nat,i=-(u:Int):=⟨i.natAbs,by omega⟩;have hw:IntKind.u64.wrap (-IntKind.u64.wrap i)=(u:Int):=by rw[hu];exact Z8 u (by omega) (by omega)
  have hit:Lib.itoa i=45::Lib.decDigits u:=by rw[Lib.itoa,if_pos c,hu];simp
  rw[hit]at hR;have fo:=uN l;obtain⟨qk,hq⟩:=hq;have e1:¬q=nx:=by omega
  have we:l.length+1≤16777216:=by omega
  have jL:u<18446744073709551616:=by omega
  have vK:l++45::Lib.decDigits u=(l++[45])++Lib.decDigits u:=by simp
  rw[vK]at hR;have hl4:(l++[45]).length≤16000000:=by simp;omega
  rcases hq with⟨rfl,gq⟩ |⟨rfl,gq⟩
  all_goals
   simp-implicitDefEqProofs[go_sem,c,gq,e1,we,hw,aG];refine X8 _ _ (nx+1) _ (l++[45]) u ⟨by omega,.inl ⟨by simp,by simp[go_sem,bM]⟩⟩ hl4 jL _ fun g ny q' b1 b2 b3 b4=>?_;generalize (l++[45])++Lib.decDigits u=L at hR b4 ⊢;simp-implicitDefEqProofs[go_sem,aB];refine hR g ny q' (by omega) (by omega) (fun k k1 k2=>?_) b4;rw[b3 k (by omega) (by omega)];simp[go_sem,k2,show ¬k=nx by omega,show ¬k=nx+1 by omega]
 ·obtain⟨u,hu⟩:∃u:Nat,i=(u:Int):=⟨i.toNat,by omega⟩;have hw:IntKind.u64.wrap i=(u:Int):=by rw[hu];exact zxs _ (by omega) (by omega)
  have hit:Lib.itoa i=Lib.decDigits u:=by rw[Lib.itoa,if_neg c,hu];simp
  rw[hit]at hR;simp-implicitDefEqProofs[go_sem,c,hw];refine X8 h nx q v l u hq (by omega) (by omega) _ fun g ny q' b1 b2 b3 b4=>?_;generalize l++Lib.decDigits u=L at hR b4 ⊢;simp-implicitDefEqProofs[go_sem,aB];exact hR g ny q' b1 b2 b3 b4
theorem zyb (h:Tr ABlk) (nx q:Nat)(v:AV)(l:List UInt8) (i:Int)(hq:tv h nx q v l)(hl:l.length≤15000000)(h0:-9223372036854775808≤i)(h1:i≤9223372036854775807)(R:AV→Tr ABlk→Nat→Prop)
  (hR:∀g ny q',nx≤ny→nx≤q'→(∀k,k<nx→k≠q→g.get k=h.get k)→tv g ny q' (.sl q' 0 (l++Lib.itoa i).length 0 true) (l++Lib.itoa i)→R (.sl q' 0 (l++Lib.itoa i).length 0 true) g ny):aN Tryz.prog cx 252 [v,.int .i64 i,.int .i64 10] h nx R:=by
 refine aV (sz:=11) (rs:=[.tmp 6]) aE zFz rfl rfl rfl (by simp) ?_;simp-implicitDefEqProofs[go_sem];refine zGm h nx q v l i hq hl h0 h1 _ fun g ny q' b1 b2 b3 b4=>?_;generalize l++Lib.itoa i=L at hR b4 ⊢;simp-implicitDefEqProofs[go_sem,aB];exact hR g ny q' b1 b2 b3 b4
end
end Go.Ev
namespace Go.Ev
open Go.Proofs Go.Sort
noncomputable section
attribute [-go_sem] dw bP ep
theorem zQ4:cx.ft.get 254=some Tryz.f254:=aT (by decide) (by kernel_rfl)
theorem zTe:cx.ft.get 198=some Tryz.f198:=aT (by decide) (by kernel_rfl)
theorem zR1:cx.ft.get 141=some Tryz.f141:=aT (by decide) (by kernel_rfl)
@[go_sem] theorem zVv (l:List UInt8):rz (bM l)=some l:=zy6 l
@[go_sem] theorem yde (k:IntKind):nK (.int k 1)=some 1:=rfl
@[go_sem] theorem zZg (k:IntKind):nK (.int k 0)=some 0:=rfl
@[go_sem] theorem zHa (n0:Nat)(e:TypeId) (size b:Nat)(z:Option AV) (x:Nat) (s:Nat)(y:Bool)(fs:List (Nat×Nat×Bool)) (i o:Nat)(k:IntKind) (n:Nat)(h:Tr ABlk) (nx:Nat)(hn:n<n0):
  jE (.mk (.array n0 e) size b z ((x,s,y)::fs)) (.ptr i o) (.int k (n:Int)) h nx=.val (.ptr i (o+n * s)) h nx:=by
 simp[jE,A9,iL,Nat.succ_le_of_lt hn,fN_eq]
@[go_sem] theorem yay (n0:Nat)(e:TypeId) (size b:Nat)(z:Option AV) (x:Nat) (s:Nat)(y:Bool)(fs:List (Nat×Nat×Bool)) (i o:Nat)(k:IntKind)(h:Tr ABlk) (nx:Nat)(hn:0<n0):
  jE (.mk (.array n0 e) size b z ((x,s,y)::fs)) (.ptr i o) (.int k 0) h nx=.val (.ptr i o) h nx:=by
 have:=zHa n0 e size b z x s y fs i o k 0 h nx hn;simpa using this
def QG (B:Option ABlk) (o l:Nat)(h:Tr ABlk) (nx:Nat):R:=match B with
 |some (.cells _ n c _ _)=>match Nat.ble (Nat.add o l) n with
  |true=>match iI c l o with
   |some cs=>match rz cs with
    |some r=>.val (.bs ⟨r.toArray⟩) h nx
    |none=>.fail
   |none=>.fail
  |false=>.fail
 |_=>.fail
def YA (r:Option (List UInt8))(h:Tr ABlk) (nx:Nat):R:=match r with
 |some r=>.val (.bs ⟨r.toArray⟩) h nx
 |none=>.fail
@[go_sem] theorem zVk (ts:TI)(k k':IntKind) (d1 d2:Nat)(d3:Option AV)(d4:List (Nat×Nat×Bool))(te:Option TI)(et:TypeId) (n:Int)(h:Tr ABlk) (nx:Nat):ep ts (.mk (.int k) d1 d2 d3 d4) te et (.int k' n) h nx=.val (.int k (k.wrap n)) h nx:=by
 cases ts;rfl
@[go_sem high] theorem zZh (e s1 s2 d1 d2 t1 t2:Nat)(s3 d3 t3:Option AV)(s4 d4 t4:List (Nat×Nat×Bool)) (i o l cp:Nat)(opn:Bool)(h:Tr ABlk) (nx:Nat):
  ep (.mk (.slice e) s1 s2 s3 s4) (.mk .string d1 d2 d3 d4) (some (.mk (.int .u8) t1 t2 t3 t4)) e (.sl i o l cp opn) h nx=QG (h.get i) o l h nx:=by
 simp only[ep,Nat.beq_refl];rfl
@[go_sem] theorem zYi (t:TypeId)(L:List AV)(opn:Bool) (esz o l:Nat)(h:Tr ABlk) (nx:Nat)(hl:o+l≤L.length):QG (some (bx t L opn esz)) o l h nx=YA (rz ((L.drop o).take l)) h nx:=by
 have e1:Nat.ble (Nat.add o l) L.length=true:=Nat.ble_eq_true_of_le hl;simp only[QG,bx,e1,JP L l o hl];cases rz ((L.drop o).take l) <;> rfl
@[go_sem] theorem yb4 (r:List UInt8)(h:Tr ABlk) (nx:Nat):YA (some r) h nx=.val (.bs ⟨r.toArray⟩) h nx:=rfl
theorem zJr (i:Int)(h0:-9223372036854775808≤i)(h1:i≤9223372036854775807):ay Tryz.prog cx 254 [.int .i64 i,.int .i64 10] (.bs ⟨(Lib.itoa i).toArray⟩):=by
 refine ay.mk fun h nx R hR=>aV (sz:=54) (rs:=[.tmp 4]) aE zQ4 rfl rfl rfl (by simp) ?_
 by_cases c1:0≤i∧i<100
 ·obtain⟨u,hu⟩:∃u:Nat,i=(u:Int):=⟨i.toNat,by omega⟩;have hit:Lib.itoa i=Lib.decDigits u:=by rw[Lib.itoa,if_neg (by omega),hu];simp
  rw[hit]at hR;have hc:=zyw u (by omega);rw[← hu]at hc;simp-implicitDefEqProofs[go_sem,c1.1,c1.2];refine ay.use hc ?_;simp-implicitDefEqProofs[go_sem,aB];exact hR _ _ _ (aA.refl _ _) (Fz.eq rfl rfl)
 ·by_cases c:i<0
  ·have c2:¬0≤i:=by omega
   obtain⟨u,hu⟩:∃u:Nat,i=-(u:Int):=⟨i.natAbs,by omega⟩;have hw:IntKind.u64.wrap (-IntKind.u64.wrap i)=(u:Int):=by rw[hu];exact Z8 u (by omega) (by omega)
   have hit:Lib.itoa i=45::Lib.decDigits u:=by rw[Lib.itoa,if_pos c,hu];simp
   rw[hit]at hR;have jL:u<18446744073709551616:=by omega
   have n20:=G7 u (by omega) jL;have n1:=Lib.nDigits_pos u;have nlt:=Rk u;have EZ:=Qh u;have pV:=JW (Lib.nDigits u) u;simp-implicitDefEqProofs[go_sem,c,c2,hw];refine ay.use (Sb u (by omega) jL) ?_;generalize Lib.nDigits u=n at *;obtain⟨m,hm⟩:∃m,m=n+1:=⟨_,rfl⟩;have w1:IntKind.i64.wrap (1+(n:Int))=(m:Int):=by rw[hm,aY] <;> omega
   have m24:m≤24:=by omega
   have m1:1≤m:=by omega
   have mn:m-1=n:=by omega
   simp-implicitDefEqProofs[go_sem,aB,m24,m1,mn,w1];refine QI _ _ nx u 1 n 23 0 289 false false (List.replicate 24 0) (by simp only[Tr.get_put,if_true];rfl) (by simp;omega) (by omega) nlt jL _ ?_;have eU:(List.take 1 (List.replicate 24 (0:UInt8))++(dP n u++List.drop (1+n) (List.replicate 24 0)))=0::(dP n u++List.replicate (23-n) 0):=by
    rw[List.drop_replicate,show 24-(1+n)=23-n by omega];rfl
   rw[eU];have sO:aG (bM (0::(dP n u++List.replicate (23-n) 0))) 0 [.int .u8 45]=bM (45::(dP n u++List.replicate (23-n) 0)):=rfl;have qe:(bM (0::(dP n u++List.replicate (23-n) 0))).length=24:=by simp[tD,pV];omega
   have Fw:(bM (45::(dP n u++List.replicate (23-n) 0))).length=24:=by simp[tD,pV];omega
   have dM:(bM (45::(dP n u++List.replicate (23-n) 0))).take m=bM (45::dP n u):=by
    rw[show bM (45::(dP n u++List.replicate (23-n) 0))=bM (45::dP n u)++bM (List.replicate (23-n) 0) by rw[← wB];rfl];exact List.take_left' (by rw[tD];simp[pV];omega)
   rw[EZ]at hR;generalize bM (45::(dP n u++List.replicate (23-n) 0))=qaa at sO dM Fw;generalize bM (0::(dP n u++List.replicate (23-n) 0))=SX at sO qe;simp-implicitDefEqProofs[go_sem,aB,m24,w1,c,sO,qe,Fw,dM];refine hR _ _ _ ?_ (Fz.eq rfl rfl);simp(disch:=omega)only[aL];exact aA.refl _ _
  ·have c2:¬i<100:=by omega
   have c3:0≤i:=by omega
   obtain⟨u,hu⟩:∃u:Nat,i=(u:Int):=⟨i.toNat,by omega⟩;have hw:IntKind.u64.wrap i=(u:Int):=by rw[hu];exact zxs _ (by omega) (by omega)
   have hit:Lib.itoa i=Lib.decDigits u:=by rw[Lib.itoa,if_neg c,hu];simp
   rw[hit]at hR;have jL:u<18446744073709551616:=by omega
   have n20:=G7 u (by omega) jL;have n1:=Lib.nDigits_pos u;have nlt:=Rk u;have EZ:=Qh u;have pV:=JW (Lib.nDigits u) u;simp-implicitDefEqProofs[go_sem,c,c2,c3,hw];refine ay.use (Sb u (by omega) jL) ?_;generalize Lib.nDigits u=n at *;obtain⟨m,hm⟩:∃m,m=n+1:=⟨_,rfl⟩;have w1:IntKind.i64.wrap (1+(n:Int))=(m:Int):=by rw[hm,aY] <;> omega
   have m24:m≤24:=by omega
   have m1:1≤m:=by omega
   have mn:m-1=n:=by omega
   simp-implicitDefEqProofs[go_sem,aB,m24,m1,mn,w1];refine QI _ _ nx u 1 n 23 0 289 false false (List.replicate 24 0) (by simp only[Tr.get_put,if_true];rfl) (by simp;omega) (by omega) nlt jL _ ?_;have eU:(List.take 1 (List.replicate 24 (0:UInt8))++(dP n u++List.drop (1+n) (List.replicate 24 0)))=0::(dP n u++List.replicate (23-n) 0):=by
    rw[List.drop_replicate,show 24-(1+n)=23-n by omega];rfl
   rw[eU];have qe:(bM (0::(dP n u++List.replicate (23-n) 0))).length=24:=by simp[tD,pV];omega
   have dM:((bM (0::(dP n u++List.replicate (23-n) 0))).drop 1).take n=bM (dP n u):=by
    rw[show (bM (0::(dP n u++List.replicate (23-n) 0))).drop 1=bM (dP n u)++bM (List.replicate (23-n) 0) by rw[← wB];rfl];exact List.take_left' (by rw[tD];exact pV)
   rw[EZ]at hR;have hbd:1+n≤24:=by omega
   generalize bM (0::(dP n u++List.replicate (23-n) 0))=SX at dM qe;rw[List.drop_one]at dM;simp-implicitDefEqProofs[go_sem,aB,m24,m1,mn,w1,c,qe,hbd,dM];refine hR _ _ _ ?_ (Fz.eq rfl rfl);simp(disch:=omega)only[aL];exact aA.refl _ _
theorem zOh (i:Int)(h0:-9223372036854775808≤i)(h1:i≤9223372036854775807):ay Tryz.prog cx 198 [.int .i64 i] (.bs ⟨(Lib.itoa i).toArray⟩):=by
 refine ay.mk fun h nx R hR=>aV (sz:=5) (rs:=[.tmp 2]) aE zTe rfl rfl rfl (by simp) ?_;simp-implicitDefEqProofs[go_sem];refine ay.use (zJr i h0 h1) ?_;simp-implicitDefEqProofs[go_sem,aB];exact hR _ _ _ (aA.refl _ _) (Fz.eq rfl rfl)
theorem K3 (i:Int)(h0:-9223372036854775808≤i)(h1:i≤9223372036854775807):ay Tryz.prog cx 141 [.int .i64 i] (.bs ⟨(Lib.itoa i).toArray⟩):=by
 refine ay.mk fun h nx R hR=>aV (sz:=5) (rs:=[.tmp 2]) aE zR1 rfl rfl rfl (by simp) ?_;simp-implicitDefEqProofs[go_sem];refine ay.use (zOh i h0 h1) ?_;simp-implicitDefEqProofs[go_sem,aB];exact hR _ _ _ (aA.refl _ _) (Fz.eq rfl rfl)
end
end Go.Ev
namespace Go.Ev
open Go.Proofs
noncomputable section
attribute [-go_sem] dw bP
theorem zLc:cx.ft.get 294=some Tryz.f294:=aT (by decide) (by kernel_rfl)
theorem zHn:cx.ft.get 293=some Tryz.f293:=aT (by decide) (by kernel_rfl)
theorem zGx:cx.ft.get 292=some Tryz.f292:=aT (by decide) (by kernel_rfl)
theorem zLb:cx.ft.get 260=some Tryz.f260:=aT (by decide) (by kernel_rfl)
theorem Xu (u v:Bool)(l m:List Int)(hl:l.length≤1000000000):ay Tryz.prog cx 294 [.fz 1 u (aI l),.fz 1 v (aI m)] (.bool (decide (l=m))):=by
 refine ay.mk fun h nx R hR=>aV (sz:=26) (rs:=[.tmp 4]) aE zLc rfl rfl rfl (by simp) ?_
 by_cases hlen:l.length=m.length
 ·simp-implicitDefEqProofs[go_sem,hlen];refine bT (fun mm st=>∃tm k,st=.mk tm h nx []∧mm=l.length-k∧k≤l.length∧tm.get 0=some (.fz 1 u (aI l))∧tm.get 1=some (.fz 1 v (aI m))∧tm.get 12=some (.int .i64 (l.length:Int))∧tm.get 13=some (.int .i64 (k:Int))∧RowKit.Hid (l.take k=m.take k)) ⟨l.length,_,0,rfl,by simp,by simp,?_⟩ ?_
  ·simp-implicitDefEqProofs[go_sem,hlen];exact Lib.hid trivial
  ·rintro mm st ⟨tm,k,rfl,rfl,hk,t0,t1,t12,t13,hv⟩ J hJ
   refine bt aE _ ?_
   by_cases az:k<l.length
   ·have dj:k<m.length:=by omega
    simp-implicitDefEqProofs[go_sem,t12,t13,az];refine ik mixed aE eO [] [] [] (by kernel_rfl) ?_;simp-implicitDefEqProofs[go_sem,t0,t1,az,dj];refine BI (fun hb=>?_) (fun hb=>?_)
    ·simp at hb;simp-implicitDefEqProofs[go_sem];refine hR _ _ _ (aA.refl _ _) (Fz.eq rfl ?_);have:¬l=m:=fun e=>hb (by subst e;rfl);simp[this]
    ·simp at hb;simp-implicitDefEqProofs[go_sem,t13];refine hJ (l.length-(k+1)) _ (by omega) ⟨_,k+1,rfl,rfl,by omega,?_⟩;simp(disch:=omega) [go_sem,t0,t1,t12,aY];refine Lib.hid ?_;rw[List.take_succ_eq_append_getElem az,List.take_succ_eq_append_getElem dj,hv.out,hb]
   ·have:=hv.out;rw[ar (by omega),ar (by omega)]at this;simp-implicitDefEqProofs[go_sem,t12,t13,az];refine hR _ _ _ (aA.refl _ _) (Fz.eq rfl ?_);simp[this]
 ·have hi:¬(l.length:Int)=(m.length:Int):=by omega
  simp-implicitDefEqProofs[go_sem,hi];refine hR _ _ _ (aA.refl _ _) (Fz.eq rfl ?_);have:¬l=m:=fun e=>hlen (by rw[e]);simp[this]
def uL (a b:Nd):Bool:=decide (a.fact=b.fact) && (decide (a.leaf=b.leaf) && (decide (a.cuts=b.cuts) && decide (a.kids=b.kids)))
theorem zKd (a b:Nd)(h1:a.cuts.length≤1000000000)(h2:a.kids.length≤1000000000):ay Tryz.prog cx 293 [.agg a.cs,.agg b.cs] (.bool (uL a b)):=by
 obtain⟨fa,ca,ka,la⟩:=a;obtain⟨fb,cb,kb,lb⟩:=b;simp only at h1 h2;have c1:=Classical.em (fa=fb);have c2:=Classical.em (ca=cb);cases la <;> cases lb <;> rcases c1 with c1 |c1 <;> rcases c2 with c2 |c2
 all_goals
  refine ay.mk fun h nx R hR=>aV (sz:=31) (rs:=[.tmp 4]) aE zHn rfl rfl rfl (by simp) ?_;have E:∀x y,aA nx h ((h.put nx x).put (nx+1) y):=fun x y=>((aA.refl nx h).put (ae _) _).put (by omega) _;simp-implicitDefEqProofs[go_sem,Nd.cs,c1]
 all_goals first
  |(refine hR _ _ _ (E _ _) (Fz.eq rfl ?_)
    simp[uL,c1,c2])
  |(refine ay.use (Xu false false ca cb h1) ?_
    simp-implicitDefEqProofs[go_sem,aB,c2])
 all_goals first
  |(refine hR _ _ _ (E _ _) (Fz.eq rfl ?_)
    simp[uL,c1,c2])
  |(refine ay.use (Xu false false ka kb h2) ?_
    simp-implicitDefEqProofs[go_sem,aB];refine hR _ _ _ (E _ _) (Fz.eq rfl ?_);simp[uL,c1,c2])
def mY:List Nd→List Nd→Bool
 |[],[]=>true
 |a::l,b::m=>uL a b && mY l m
 |_,_=>false
theorem Zf:∀{l m:List Nd},¬l.length=m.length→mY l m=false
 |[],[],h=>absurd rfl h
 |[],_::_,_=>rfl
 |_::_,[],_=>rfl
 |a::l,b::m,h=>by
  have:=Zf (l:=l) (m:=m) (by simpa using h);simp[mY,this]
theorem Sy:∀{l m:List Nd},mY l m=true↔l=m
 |[],[]=>by simp[mY]
 |[],_::_=>by simp[mY]
 |_::_,[]=>by simp[mY]
 |a::l,b::m=>by
  have:=Sy (l:=l) (m:=m);cases a;cases b;simp[mY,uL,this,and_assoc,and_comm,and_left_comm]
theorem zSf (u v:Bool)(l m:List Nd)(hl:l.length≤1000000000)(hp:∀a∈l,∀b∈m,ay Tryz.prog cx 293 [.agg a.cs,.agg b.cs] (.bool (uL a b))):ay Tryz.prog cx 292 [.fz 4 u (bK l),.fz 4 v (bK m),.func 293 [] []] (.bool (mY l m)):=by
 refine ay.mk fun h nx R hR=>aV (sz:=32) (rs:=[.tmp 6]) aE zGx rfl rfl rfl (by simp) ?_
 by_cases hlen:l.length=m.length
 ·simp-implicitDefEqProofs[go_sem,hlen];refine bT (fun mm st=>∃tm h' ax k,st=.mk tm h' ax []∧mm=m.length-k∧k≤m.length∧tm.get 1=some (.fz 4 v (bK m))∧tm.get 2=some (.func 293 [] [])∧tm.get 15=some (.fz 4 u (bK l))∧tm.get 16=some (.int .i64 (m.length:Int))∧tm.get 17=some (.int .i64 (k:Int))∧aA nx h h'∧nx≤ax∧RowKit.Hid (mY l m=mY (l.drop k) (m.drop k))) ⟨m.length,_,_,_,0,rfl,by simp,by simp,?_⟩ ?_
  ·simp-implicitDefEqProofs[go_sem];exact⟨aA.refl _ _,Lib.hid trivial⟩
  ·rintro mm st ⟨tm,h',ax,k,rfl,rfl,hk,t1,t2,t15,t16,t17,he,hn,hv⟩ J hJ
   refine bt aE _ ?_
   by_cases az:k<m.length
   ·have dj:k<l.length:=by omega
    have HD:=Lib.hid (show mY (l.drop k) (m.drop k)=(uL l[k] m[k] && mY (l.drop (k+1)) (m.drop (k+1))) by
     rw[aj az,aj dj,mY])
    simp-implicitDefEqProofs[go_sem,t1,t2,t15,t16,t17,az,dj];refine ay.use (hp _ (ai dj) _ (ai az)) ?_
    by_cases hs:uL l[k] m[k]=true
    ·simp-implicitDefEqProofs[go_sem,aB,t17,hs];refine hJ (m.length-(k+1)) _ (by omega) ⟨_,_,_,k+1,rfl,rfl,by omega,?_⟩;simp(disch:=omega) [go_sem,t1,t2,t15,t16,aY];have hd:=HD.out;rw[hs,Bool.true_and]at hd;refine⟨((((he.put (by omega) _).put (by omega) _).put (by omega) _).put (by omega) _),by omega,Lib.hid (by rw[hv.out,hd])⟩
    ·have jf:uL l[k] m[k]=false:=by simpa using hs
     simp-implicitDefEqProofs[go_sem,aB,jf];refine hR _ _ _ ((((he.put (by omega) _).put (by omega) _).put (by omega) _).put (by omega) _) (Fz.eq rfl ?_);rw[hv.out,HD.out,jf,Bool.false_and]
   ·simp-implicitDefEqProofs[go_sem,t16,t17,az];refine hR _ _ _ he (Fz.eq rfl ?_);rw[hv.out,aq (by omega),aq (by omega),mY]
 ·have hi:¬(l.length:Int)=(m.length:Int):=by omega
  simp-implicitDefEqProofs[go_sem,hi];refine hR _ _ _ (aA.refl _ _) (Fz.eq rfl ?_);rw[Zf hlen]
theorem zPk (u v:Bool)(l m:List Nd)(hl:l.length≤1000000000)(h1:∀a∈l,a.cuts.length≤1000000000∧a.kids.length≤1000000000):ay Tryz.prog cx 260 [.agg [.fz 4 u (bK l)],.agg [.fz 4 v (bK m)]] (.bool (mY l m)):=by
 refine ay.mk fun h nx R hR=>aV (sz:=10) (rs:=[.tmp 4]) aE zLb rfl rfl rfl (by simp) ?_;have E:∀x y,aA nx h ((h.put nx x).put (nx+1) y):=fun x y=>((aA.refl nx h).put (ae _) _).put (by omega) _;simp-implicitDefEqProofs[go_sem];refine ay.use (zSf u v l m hl fun a ha b _=>zKd a b (h1 a ha).1 (h1 a ha).2) ?_;simp-implicitDefEqProofs[go_sem,aB];exact hR _ _ _ (E _ _) (Fz.eq rfl rfl)
theorem zJu:cx.ft.get 149=some Tryz.f149:=aT (by decide) (by kernel_rfl)
theorem A6 (l:List Nd):(l.flatMap Nd.cs).length=l.length * 4:=by
 induction l with
 |nil=>rfl
 |cons x l ih=>simp[Nd.cs,ih];omega
theorem Sr:∀l:List Nd,dB (l.flatMap Nd.cs)=true
 |[]=>rfl
 |x::l=>by
  have h1:=Sr l;simp[Nd.cs,dB,AV.one];exact h1
theorem Yj:∀l:List Nd,bC (l.flatMap Nd.cs)=true
 |[]=>rfl
 |x::l=>by
  have h1:=Yj l;simp[Nd.cs,bC,plain,uX,h1]
theorem J5:∀(l:List Nd) (k:Nat)(x:Nd),l[k]?=some x→((l.flatMap Nd.cs).drop (k * 4)).take 4=x.cs
 |[],k,x,h=>by simp at h
 |y::l,0,x,h=>by
  simp at h;subst h;simp[Nd.cs]
 |y::l,k+1,x,h=>by
  have:=J5 l k x (by simpa using h);rw[show (k+1) * 4=k * 4+4 by omega];simp[Nd.cs]at this ⊢;exact this
theorem Xf:∀(l:List Nd) (k:Nat)(x:Nd)(b:Bool),l[k]?=some x→aG (l.flatMap Nd.cs) (k * 4+3) [.bool b]=(l.set k ⟨x.fact,x.cuts,x.kids,b⟩).flatMap Nd.cs
 |[],k,x,b,h=>by simp at h
 |y::l,0,x,b,h=>by
  simp at h;subst h;simp[Nd.cs,aG]
 |y::l,k+1,x,b,h=>by
  have:=Xf l k x b (by simpa using h);rw[show (k+1) * 4+3=(k * 4+3)+4 by omega];rw[List.set_cons_succ,List.flatMap_cons,List.flatMap_cons,← this];simp[Nd.cs,aG]
theorem Y7:∀l:List Nd,qG 4 (bK l) (l.flatMap Nd.cs)
 |[]=>rfl
 |x::l=>⟨x.cs,l.flatMap Nd.cs,by simp,rfl,by cases x;rfl,.inl rfl,Y7 l⟩
theorem Te {g:Tr ABlk}{nx b:Nat}{s:List Nd}{cp esz:Nat}{op opn:Bool}(hb:nx≤b)(hg:g.get b=some (bx 154 (s.flatMap Nd.cs) opn esz)):Fz g nx (.sl b 0 s.length cp op) (.fz 4 false (bK s)):=
 .slz b 0 _ cp op 154 _ _ opn esz 4 (s.flatMap Nd.cs) (s.flatMap Nd.cs) (bK s) hb hg (by simp) (fun j hj=>by rw[Nat.zero_add,fx]) (ct.same _ (Yj s)) (Y7 s) (zyp s)
theorem zNn (l:List Nd):(bK l).flatMap AV.cells=l.flatMap Nd.cs:=by
 induction l with
 |nil=>rfl
 |cons x l ih=>
  rw[show bK (x::l)=.agg x.cs::bK l from rfl,List.flatMap_cons,List.flatMap_cons,ih];rfl
def eB (n:Nd):Nd:=if n.kids=[] then ⟨n.fact,n.cuts,n.kids,!n.leaf⟩ else n
theorem zJs (full:Bool)(n0:Nd)(ns:List Nd)(hl:ns.length<1000000):ay Tryz.prog cx 149 [.agg [.fz 4 full (bK (n0::ns))]] (.agg [.fz 4 false (bK ((n0::ns).map eB))]):=by
 refine ay.mk fun h nx R hR=>aV (sz:=32) (rs:=[.cell 2 92]) aE zJu rfl rfl rfl (by simp) ?_;have aX:=zMy full (.agg n0.cs) (bK ns);rw[show (AV.agg n0.cs)::bK ns=bK (n0::ns) from rfl,zNn,zyp,show ns.length+1=(n0::ns).length from rfl]at aX;have oS:(n0::ns).length≤1000000:=by simp;omega
 have hgp:0<(n0::ns).length:=by simp
 generalize (n0::ns)=g at *;simp-implicitDefEqProofs[go_sem];refine aX (Sr g) (by omega) _ _ _ fun g1 q ny e1 q1 q2 gq=>?_;have gx:g1.get (nx+1)=some (bx 92 [.sl0] false 0):=by rw[e1 _ (by omega)];simp[go_sem]
 have E1:aA nx h g1:=by
  intro k hk;rw[e1 k (by omega)];simp[go_sem,show ¬k=nx by omega,show ¬k=nx+1 by omega]
 have nq:¬q=ny:=by omega
 simp-implicitDefEqProofs[go_sem,aB];refine bT (fun mm st=>∃tm h' ax k cur,st=.mk tm h' ax []∧mm=g.length-k∧k≤g.length∧tm.get 2=some (.ptr (nx+1) 0)∧tm.get 3=some (.ptr ny 0)∧tm.get 11=some (.sl q 0 g.length 0 true)∧tm.get 12=some (.int .i64 (g.length:Int))∧tm.get 13=some (.int .i64 (k:Int))∧h'.get q=some (bx 154 (cur.flatMap Nd.cs) true 4)∧h'.get ny=some (bx 92 [.sl q 0 g.length 0 true] false 0)∧h'.get (nx+1)=some (bx 92 [.sl0] false 0)∧aA nx h h'∧ny<ax∧RowKit.Hid (cur.length=g.length∧∀j,cur[j]?=if j<k then (g[j]?).map eB else g[j]?)) ⟨g.length,_,_,_,0,g,rfl,by simp,by simp,?_⟩ ?_
 ·simp-implicitDefEqProofs[go_sem,nq,gq,gx,show ¬nx+1=ny by omega];refine⟨?_,Lib.hid trivial⟩;simp(disch:=omega)only[aL];exact E1
 ·rintro mm st ⟨tm,h',ax,k,cur,rfl,rfl,hk,t2,t3,t11,t12,t13,nA,H5,En,he,dK,hv⟩ J hJ
  refine bt aE _ ?_;obtain⟨v1,v2⟩:=hv.out;have m1:¬q=ax:=by omega
  have m2:¬ny=ax:=by omega
  have m3:¬nx+1=ax:=by omega
  have m4:¬ax=q:=by omega
  have m5:¬ny=q:=by omega
  have m6:¬nx+1=q:=by omega
  by_cases az:k<g.length
  ·have a0:cur[k]?=some g[k]:=by rw[v2 k,if_neg (by omega)];simp[az]
   have a1:=J5 cur k _ a0;have a2:=Xf cur k _ (!(g[k]).leaf) a0;have a3:(cur.flatMap Nd.cs).length=cur.length * 4:=A6 cur;have mL:∀yZ,yZ=cur.set k (eB g[k])→(yZ.length=g.length∧∀j,yZ[j]?=if j<k+1 then (g[j]?).map eB else g[j]?):=by
    rintro _ rfl
    refine⟨by simp[v1],fun j=>?_⟩
    by_cases hj:j=k
    ·subst hj;rw[List.getElem?_set_self (by omega),if_pos (by omega)];simp[az]
    ·rw[List.getElem?_set_ne (by omega),v2 j]
     by_cases eK:j<k
     ·rw[if_pos eK,if_pos (by omega)]
     ·rw[if_neg eK,if_neg (by omega)]
   have uh:k * 4+4≤(cur.flatMap Nd.cs).length:=by omega
   have hk5:k * 4+3+1≤(cur.flatMap Nd.cs).length:=by omega
   clear v2 hv;obtain⟨L,hL⟩:∃L,L=cur.flatMap Nd.cs:=⟨_,rfl⟩;rw[← hL]at a1 a2 uh hk5 nA;generalize hgk:g[k]=x at a1 a2 mL
   by_cases c1:x.kids=[]
   ·have x8:cur.set k (eB x)=cur.set k ⟨x.fact,x.cuts,x.kids,!x.leaf⟩:=by rw[eB,if_pos c1]
    have HN:=Lib.hid (mL _ x8.symm);clear mL;simp only[Nd.cs,c1]at a1;simp-implicitDefEqProofs[go_sem,t3,t11,t12,t13,az,nA,H5,m1,m2,uh,a1];refine hJ (g.length-(k+1)) _ (by omega) ⟨_,_,_,k+1,cur.set k ⟨x.fact,x.cuts,x.kids,!x.leaf⟩,rfl,rfl,by omega,?_⟩;simp(disch:=omega) [go_sem,t2,t3,t11,t12,H5,En,m2,m3,m5,m6,aY];refine⟨by rw[a2],?_,by omega,by first |exact Lib.hid ⟨v1,HN.out.2⟩ |exact Lib.hid HN.out.2⟩;simp(disch:=omega)only[aL];exact he
   ·have x8:cur.set k (eB x)=cur:=by
     rw[eB,if_neg c1];apply List.ext_getElem?;intro j
     by_cases hj:j=k
     ·subst hj;rw[List.getElem?_set_self (by omega),a0,hgk]
     ·rw[List.getElem?_set_ne (by omega)]
    have HN:=Lib.hid (mL _ x8.symm);clear mL;have ql:¬x.kids.length=0:=fun e=>c1 (au e);simp only[Nd.cs]at a1;simp-implicitDefEqProofs[go_sem,t11,t12,t13,az,nA,uh,a1,ql];refine hJ (g.length-(k+1)) _ (by omega) ⟨_,_,_,k+1,cur,rfl,rfl,by omega,?_⟩;simp(disch:=omega) [go_sem,t2,t3,t11,t12,nA,H5,En,m1,m2,m3,aY,hL];refine⟨?_,by omega,by first |exact HN |exact Lib.hid HN.out.2⟩;simp(disch:=omega)only[aL];exact he
  ·have hc:cur=g.map eB:=by
    apply List.ext_getElem?;intro j;rw[v2 j]
    by_cases hj:j<k
    ·rw[if_pos hj];simp
    ·rw[if_neg hj,List.getElem?_eq_none (by omega),List.getElem?_eq_none (by simp;omega)]
   simp-implicitDefEqProofs[go_sem,t2,t3,t12,t13,az,H5,En,aG];refine hR _ _ _ ?_ ?_
   ·simp(disch:=omega)only[aL];exact he
   ·refine .agg _ _ (.cons _ _ _ _ ?_ .nil);have zA:g.length=(g.map eB).length:=by simp
    rw[zA];refine Te (opn:=true) (esz:=4) (by omega) ?_;rw[← hc];simp[go_sem,nA,show ¬q=nx+1 by omega]
def wV:List ByteArray→Nat→List (AV×AV×Nat)
 |[],_=>[]
 |x::l,n=>(.bs x,.int .i64 (n:Int),n)::wV l (n+1)
theorem zxk (x:ByteArray):∀(l:List ByteArray) (n:Nat),wV l n++[(.bs x,.int .i64 ((n+l.length:Nat):Int),n+l.length)]=wV (l++[x]) n
 |[],n=>rfl
 |y::l,n=>by
  have:=zxk x l (n+1);simp only[wV,List.cons_append,List.length_cons];rw[← this,show n+(l.length+1)=n+1+l.length by omega]
def yC (x:ByteArray):List ByteArray→Nat→Option (Nat×AV)
 |[],_=>none
 |y::l,i=>if x=y then some (i,.int .i64 (i:Int)) else yC x l (i+1)
theorem Z7 (x:ByteArray):∀(l:List ByteArray) (n:Nat),mj .string (.bs x) (wV l n) n=some (yC x l n)
 |[],n=>rfl
 |y::l,n=>by
  rw[wV,DH,yC]
  by_cases e:x=y
  ·simp[lR,e]
  ·simp[lR,e,fN_eq,Z7 x l (n+1)]
@[go_sem] theorem zW2 (x:ByteArray)(l:List ByteArray):mj .string (.bs x) (wV l 0) 0=some (yC x l 0):=Z7 x l 0
theorem XG {x:ByteArray}:∀{l:List ByteArray}(i:Nat),¬x∈l→yC x l i=none
 |[],_,_=>rfl
 |y::l,i,h=>by
  simp at h;rw[yC,if_neg h.1,XG (i+1) h.2]
theorem Ye {x:ByteArray}:∀{l:List ByteArray}(i:Nat),x∈l→∃j,l[j]?=some x∧yC x l i=some (i+j,.int .i64 ((i+j:Nat):Int))
 |[],_,h=>by cases h
 |y::l,i,h=>by
  rw[yC]
  by_cases e:x=y
  ·exact⟨0,by simp[e],by simp[e]⟩
  ·rw[if_neg e];have hm:x∈l:=by
    rcases List.mem_cons.1 h with h1 |h1
    ·exact absurd h1 e
    ·exact h1
   obtain⟨j,h1,h2⟩:=Ye (i+1) hm;exact⟨j+1,by simpa using h1,by rw[h2,show i+1+j=i+(j+1) by omega]⟩
theorem zTx:cx.ft.get 194=some Tryz.f194:=aT (by decide) (by kernel_rfl)
def C4 (O:Nat→Prop)(h:Tr ABlk) (nx p:Nat)(a b:AV)(ks:List ByteArray)(L:List Nd):Prop:=ks.length=L.length∧O p∧p<nx∧
 ((L=[]∧a=.sl0∧b=.map0)∨(L≠[]∧∃m q,O m∧O q∧m<nx∧q<nx∧m≠p∧q≠p∧q≠m∧b=.map m∧h.get m=some (.map (wV ks 0) ks.length)∧a=.sl q 0 L.length 0 true∧h.get q=some (bx 154 (L.flatMap Nd.cs) true 4)))
theorem zGp (O:Nat→Prop)(h:Tr ABlk) (nx p T:Nat)(a b:AV)(rest:List AV)(ks:List ByteArray)(L:List Nd)(key:ByteArray)(n:Nd)(hp:h.get p=some (bx T (a::b::rest) false 0))(hU:C4 O h nx p a b ks L)(hL:L.length<1000000)(R:AV→Tr ABlk→Nat→Prop)
  (EC:∀(j:Nat) g ny,ks[j]?=some key→aA nx h g→nx≤ny→R (.int .i64 (j:Int)) g ny)
  (eX:∀g ny a' b',¬key∈ks→nx≤ny→g.get p=some (bx T (a'::b'::rest) false 0)→C4 (fun k=>O k∨nx≤k) g ny p a' b' (ks++[key]) (L++[n])→(∀k,k<nx→¬O k→g.get k=h.get k)→R (.int .i64 (L.length:Int)) g ny):
  aN Tryz.prog cx 194 [.ptr p 0,.bs key,.agg n.cs] h nx R:=by
 refine aV (sz:=51) (rs:=[.tmp 6]) aE zTx rfl rfl rfl (by simp) ?_;obtain⟨u1,u2,u3,hU⟩:=hU;have n1:¬p=nx:=by omega
 rcases hU with⟨rfl,rfl,rfl⟩ |⟨l0,m,q,o1,o2,m1,q1,m2,q2,q3,rfl,gm,rfl,gq⟩
 ·simp at u1;subst u1;have z1:¬p=nx+1:=by omega
  have z2:¬nx+1=p:=by omega
  have z3:¬nx=p:=by omega
  simp-implicitDefEqProofs[go_sem,hp,n1,z1,z2,bP,mj,aG];refine ik mixed aE eO [6,7,10] [] [(4,6)] (by kernel_rfl) ?_;have z4:¬p=nx+1+1:=by omega
  have z5:¬nx=nx+1+1:=by omega
  simp-implicitDefEqProofs[go_sem,z1,z3,z4,Nd.cs,aG];refine eX _ _ _ _ (by simp) (by omega) (by rw[Tr.get_put,if_pos rfl]) ?_ ?_
  ·refine⟨rfl,.inl u2,by omega,.inr ⟨by simp,nx+1,_,.inr (by omega),.inr ?_,by omega,?_,by omega,?_,?_,rfl,?_,rfl,?_⟩⟩
   all_goals first |omega |skip
   ·simp[go_sem,z2,wV]
   ·simp[go_sem,Nd.cs,show ¬nx+1+1=p by omega]
  ·intro k cO ei;have k1:¬k=p:=fun e=>ei (e ▸ u2);simp[go_sem,k1,show ¬k=nx by omega,show ¬k=nx+1 by omega,show ¬k=nx+1+1 by omega]
 ·by_cases hk:key∈ks
  ·obtain⟨j,j1,j2⟩:=Ye 0 hk;simp only[Nat.zero_add]at j2;have m3:¬m=nx:=by omega
   simp-implicitDefEqProofs[go_sem,hp,n1,gm,m3,j2,bP];refine EC j _ _ j1 ?_ ?_
   ·simp(disch:=omega)only[aL];exact aA.refl _ _
   ·omega
  ·have j2:=XG 0 hk;have m3:¬m=nx:=by omega
   have m4:¬nx=m:=by omega
   have m5:¬p=m:=by omega
   simp-implicitDefEqProofs[go_sem,hp,n1,gm,m3,j2,bP];refine ik mixed aE eO [6,7,10] [] [(4,6)] (by kernel_rfl) ?_;have z1:¬p=nx+1:=by omega
   have z2:¬q=nx+1:=by omega
   have z3:¬q=nx:=by omega
   have z4:¬p=q:=by omega
   have z5:¬nx=q:=by omega
   have z6:¬nx+1=q:=by omega
   have z7:¬p=nx+1+1:=by omega
   have z8:¬nx=nx+1+1:=by omega
   have fl:=A6 L;have fo:=Sr L;have hle:L.length+1≤16777216:=by omega
   simp-implicitDefEqProofs[go_sem,hp,n1,gq,m4,m5,q3,z1,z3,z4,fl,hle,Nd.cs,aG];refine eX _ _ _ _ hk (by omega) (by rw[Tr.get_put,if_pos rfl]) ?_ ?_
   ·refine⟨by simp[u1],.inl u2,by omega,.inr ⟨by simp,m,_,.inl o1,.inr ?_,by omega,?_,m2,?_,?_,rfl,?_,by simp;rfl,?_⟩⟩
    all_goals first |omega |skip
    ·simp[go_sem,show ¬m=p from m2,show ¬m=nx+1 by omega,show ¬m=q by omega];rw[← zxk];simp[u1]
    ·simp[go_sem,Nd.cs,show ¬nx+1=p by omega]
   ·intro k cO ei;have k1:¬k=p:=fun e=>ei (e ▸ u2);have k2:¬k=m:=fun e=>ei (e ▸ o1);have k3:¬k=q:=fun e=>ei (e ▸ o2);simp[go_sem,k1,k2,k3,show ¬k=nx by omega,show ¬k=nx+1 by omega]
end
end Go.Ev
