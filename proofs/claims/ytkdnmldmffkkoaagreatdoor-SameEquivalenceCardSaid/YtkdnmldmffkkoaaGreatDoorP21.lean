/- Texts. -/
import Derived.Test.YtkdnmldmffkkoaaGreatDoorP20
set_option linter.unusedSimpArgs false
set_option linter.unusedVariables false
set_option maxRecDepth 100000
set_option maxHeartbeats 8000000
namespace Go.Ev
open Go.Proofs
noncomputable section
attribute [-go_sem] dw bP ep
theorem zS3:cx.ft.get 145=some Tryz.f145:=aT (by decide) (by kernel_rfl)
def bG (x:Int)(c k:List Int):List Int→List Int→Int×List Int×List Int
 |s::ss,y::ys=>if y=x then bG x c k ss ys else bG y (c++[s]) (k++[y]) ss ys
 |_,_=>(x,c,k)
theorem BO {x y s:Int}{c k ss ys:List Int}(h:y=x):bG x c k (s::ss) (y::ys)=bG x c k ss ys:=by rw[bG,if_pos h]
theorem DU {x y s:Int}{c k ss ys:List Int}(h:¬y=x):bG x c k (s::ss) (y::ys)=bG y (c++[s]) (k++[y]) ss ys:=by rw[bG,if_neg h]
theorem Py {x:Int}{c k ss:List Int}:bG x c k ss []=(x,c,k):=by cases ss <;> rfl
theorem DC {k:List Int}{j:Nat}{x:Int}(h:k[j]?=some x)(hh:j<(aI k).length):(aI k)[j]'hh=.int .i64 x:=by
 have hj:j<k.length:=by simpa[aI]using hh
 rw[aa hj]at h;cases h;simp[aI]
theorem zd {g:Tr ABlk}{F:Nat→Prop}{b:Nat}{s r:List Int}{cp esz:Nat}{op opn:Bool}(hF:F b)(hg:g.get b=some (bx 3 (aI (s++r)) opn esz)):Fy g F (.sl b 0 s.length cp op) (.fz 1 false (aI s)):=
 .slz b 0 _ cp op 3 _ _ opn esz 1 (aI s) (aI s) (aI s) hF hg (by simp[aI]) (fun j hj=>by
  rw[Nat.zero_add,fx];have eK:j<s.length:=by simpa[aI]using hj
  simp only[aI,List.map_append];rw[List.getElem?_append_left (by simpa using eK)]) (cW.same _) (KY s) (Jt s)
theorem oK {h:Tr ABlk}{k:Nat}{l:List Nat}(hk:¬k∈l):(jo h l).get k=h.get k:=by rw[yx,if_neg hk]
def CK (lo:Nat)(h:Tr ABlk) (nx:Nat) (k0:Int)(c k:List Int)(vc vk:AV):Prop:=(c=[]∧k=[k0]∧vc=.sl0∧vk=.fz 1 true [.int .i64 k0])∨(c≠[]∧k.length=c.length+1∧∃bc bk,lo<bc∧lo<bk∧bc≠bk∧bc<nx∧bk<nx∧vc=.sl bc 0 c.length 0 true∧vk=.sl bk 0 k.length 0 true∧h.get bc=some (bx 3 (aI c) true 1)∧h.get bk=some (bx 3 (aI k) true 1))
@[go_sem] theorem zYb (m e size:Nat)(news xs:List AV)(h:Tr ABlk) (nx:Nat)(h0:m≠0)(h1:xs.length+m≤16777216):mv true m news e size (.fz size true xs) h nx=.val (.sl nx 0 (xs.length+m) 0 true) (h.put nx (some (bx e (xs.flatMap AV.cells++news) true size))) (nx+1):=by
 have e0:Nat.beq m 0=false:=by cases m;exact absurd rfl h0;rfl
 have e1:Nat.ble (Nat.add xs.length m) 16777216=true:=Nat.ble_eq_true_of_le h1;simp only[mv,e0,e1,Nat.beq_refl,Bool.and_self]
theorem X9 (O:Nat→Prop)(h:Tr ABlk) (nx p:Nat)(L:List Nd) (i k0:Int)(st ks:List Int)(u v:Bool)(hM:jC O h nx p L)(hL:L.length<1000000)(hi:cS i)(aW:∀x∈st,cS x)(l6:∀x∈k0::ks,cS x)(hlen:(k0::ks).length≤st.length)(Ck:(k0::ks).length≤90000)
  (n:Nd) (hn:n=⟨i,(bG k0 [] [k0] st (k0::ks)).2.1,(bG k0 [] [k0] st (k0::ks)).2.2,false⟩) (R:AV→Tr ABlk→Nat→Prop)
  (EC:∀g ny,n.kids.length=1→aA nx h g→nx≤ny→R (.int .i64 k0) g ny)
  (hR:∀O' g ny,¬n.kids.length=1→jH n→fh O h nx O' g ny→jC O' g ny p (iW L n)→R (.int .i64 (mo L n:Int)) g ny):aN Tryz.prog cx 145 [.ptr p 0,.int .i64 i,.fz 1 u (aI st),.fz 1 v (aI (k0::ks))] h nx R:=by
 refine aV (sz:=59) (rs:=[.tmp 8]) aE zS3 rfl rfl rfl (by simp) ?_;obtain⟨K,hK⟩:∃K,K=k0::ks:=⟨_,rfl⟩;have Mq:1≤K.length:=by rw[hK];simp
 have Ib:(aI K).take 1=[.int .i64 k0]:=by rw[hK];rfl
 have TK:∀hh,K[0]'hh=k0:=by subst hK;intro hh;rfl
 rw[← hK]at hn l6 hlen Ck ⊢;clear hK;simp-implicitDefEqProofs[go_sem,Mq,Ib,aG];refine bT (fun mm s=>∃tm h' ax j x c k vc vk,s=.mk tm h' ax []∧mm=K.length-j∧j≤K.length∧tm.get 0=some (.ptr p 0)∧tm.get 2=some (.fz 1 u (aI st))∧tm.get 3=some (.fz 1 v (aI K))∧tm.get 9=some (.ptr nx 0)∧tm.get 16=some (.fz 1 v (aI K))∧tm.get 17=some (.int .i64 (K.length:Int))∧tm.get 18=some (.int .i64 (j:Int))∧
  h'.get nx=some (bx 154 [.int .i64 i,vc,vk,.bool false] false 0)∧k.getLast?=some x∧
  CK nx h' ax k0 c k vc vk∧
  aA nx h h'∧nx<ax∧k.length≤j+1∧(∀y∈c,cS y)∧(∀y∈k,cS y)∧RowKit.Hid (n=⟨i,(bG x c k (st.drop j) (K.drop j)).2.1,(bG x c k (st.drop j) (K.drop j)).2.2,false⟩)) ⟨K.length,_,_,_,0,k0,[],[k0],.sl0,.fz 1 true [.int .i64 k0],rfl,by simp,by simp,?_⟩ ?_
 ·simp-implicitDefEqProofs[go_sem];refine⟨.inl ⟨rfl,rfl,rfl,rfl⟩,?_,l6 k0 ?_,Lib.hid hn⟩
  ·simp(disch:=omega)only[aL];exact aA.refl _ _
  ·have h0:=TK (by omega);rw[← h0];exact ai _
 ·rintro mm s ⟨tm,h',ax,j,x,c,k,vc,vk,rfl,rfl,hj,t0,t2,t3,t9,t16,t17,t18,g0,hx,dT,he,dK,eZ,MM,xX,hv⟩ J hJ
  refine bt aE _ ?_;have n0:¬nx=ax:=by omega
  have w0:IntKind.i64.wrap 0=0:=rfl;have n1:¬nx=ax+1:=by omega
  by_cases az:j<K.length
  ·obtain⟨y,hy⟩:∃y,y=K[j]:=⟨_,rfl⟩;have nG:j<st.length:=by omega
   obtain⟨s,hs⟩:∃s,s=st[j]:=⟨_,rfl⟩;have Oi:cS y:=by rw[hy];exact l6 _ (ai _)
   have IF:cS s:=by rw[hs];exact aW _ (ai _)
   have aJ:=hv.out;rw[aj az,aj nG,← hy,← hs]at aJ
   by_cases F6:y=x
   ·rw[BO F6]at aJ;have HV:=Lib.hid aJ;clear aJ;subst F6
    rcases dT with⟨rfl,rfl,rfl,rfl⟩ |⟨jJ,aX,bc,bk,b1,b2,b3,b4,b5,rfl,rfl,gc,gk⟩
    ·simp at hx;subst hx;simp-implicitDefEqProofs[go_sem,t9,t16,t17,t18,az,g0,w0,← hy];refine hJ (K.length-(j+1)) _ (by omega) ⟨_,_,_,j+1,k0,[],[k0],.sl0,.fz 1 true [.int .i64 k0],rfl,rfl,by omega,?_⟩;simp(disch:=omega) [go_sem,t0,t2,t3,t9,t16,t17,aY,g0];exact⟨.inl ⟨rfl,rfl,rfl,rfl⟩,he,dK,Oi,HV⟩
    ·have Fq:0<k.length:=by omega
     have w1:IntKind.i64.wrap ((k.length:Int)-1)=((k.length-1:Nat):Int):=by rw[aY] <;> omega
     have mI:k[k.length-1]?=some y:=by rw[← List.getLast?_eq_getElem?];exact hx
     have gD:=DC mI;have cO:k.length-1<k.length:=by omega
     obtain⟨q1,uo⟩:∃q1,q1=k.length-1:=⟨_,rfl⟩;rw[← uo]at w1 gD cO;simp-implicitDefEqProofs[go_sem,t9,t16,t17,t18,az,g0,gk,w1,gD,cO,← hy];refine hJ (K.length-(j+1)) _ (by omega) ⟨_,_,_,j+1,y,c,k,.sl bc 0 c.length 0 true,.sl bk 0 k.length 0 true,rfl,rfl,by omega,?_⟩;simp(disch:=omega) [go_sem,t0,t2,t3,t9,t16,t17,aY,g0,hx,aX];exact⟨.inr ⟨jJ,aX,bc,bk,b1,b2,b3,by omega,by omega,rfl,by rw[aX],gc,gk⟩,he,dK,by omega,MM,xX,HV⟩
   ·rw[DU F6]at aJ;have HV:=Lib.hid aJ;clear aJ
    rcases dT with⟨rfl,rfl,rfl,rfl⟩ |⟨jJ,aX,bc,bk,b1,b2,b3,b4,b5,rfl,rfl,gc,gk⟩
    ·simp at hx;subst hx;simp-implicitDefEqProofs[go_sem,t9,t16,t17,t18,az,g0,w0,← hy,F6];refine ik mixed aE eO [7,12,14,16] [] [(9,7)] (by kernel_rfl) ?_;simp-implicitDefEqProofs[go_sem,t2,t9,t18,g0,nG,← hs,n0,n1,aG];refine hJ (K.length-(j+1)) _ (by omega) ⟨_,_,_,j+1,y,[s],[k0,y],.sl ax 0 1 0 true,.sl (ax+1) 0 2 0 true,rfl,rfl,by omega,?_⟩;simp(disch:=omega) [go_sem,t0,t2,t3,t9,t16,t17,aY];refine⟨.inr ⟨by simp,rfl,ax,ax+1,by omega,by omega,by omega,by omega,by omega,rfl,rfl,?_,?_⟩,?_,IF,⟨xX _ (by simp),Oi⟩,?_⟩
     ·simp[go_sem,show ¬ax=nx by omega,aI]
     ·simp[go_sem,show ¬ax+1=nx by omega,aI]
     ·simp(disch:=omega)only[aL];exact he
     ·exact HV
    ·have Fq:0<k.length:=by omega
     have w1:IntKind.i64.wrap ((k.length:Int)-1)=((k.length-1:Nat):Int):=by rw[aY] <;> omega
     have mI:k[k.length-1]?=some x:=by rw[← List.getLast?_eq_getElem?];exact hx
     have gD:=DC mI;have cO:k.length-1<k.length:=by omega
     obtain⟨q1,uo⟩:∃q1,q1=k.length-1:=⟨_,rfl⟩;rw[← uo]at w1 gD cO;have z1:¬bc=ax:=by omega
     have z2:¬bk=ax:=by omega
     have z3:¬bk=bc:=fun e=>b3 e.symm;have z4:¬nx=bc:=by omega
     have z5:¬nx=bk:=by omega
     have fo1:=ve c;have tR:=ve k;have le1:c.length+1≤16777216:=by omega
     have qS:k.length+1≤16777216:=by omega
     simp-implicitDefEqProofs[go_sem,t9,t16,t17,t18,az,g0,gk,w1,gD,cO,← hy,F6];refine ik mixed aE eO [7,12,14,16] [] [(9,7)] (by kernel_rfl) ?_;simp-implicitDefEqProofs[go_sem,t2,t9,t18,g0,gc,gk,nG,← hs,n0,n1,aG,z2,z3,z4,z5,le1,qS];refine hJ (K.length-(j+1)) _ (by omega) ⟨_,_,_,j+1,y,c++[s],k++[y],.sl ax 0 (c.length+1) 0 true,.sl (ax+1) 0 (k.length+1) 0 true,rfl,rfl,by omega,?_⟩;simp(disch:=omega) [go_sem,t0,t2,t3,t9,t16,t17,aY];refine⟨.inr ⟨by simp,by simp;omega,ax,ax+1,by omega,by omega,by omega,by omega,by omega,by simp,by simp,?_,?_⟩,?_,by omega,?_,?_,HV⟩
     ·simp[go_sem,show ¬ax=nx by omega,show ¬ax=bk by omega,aI]
     ·simp[go_sem,show ¬ax+1=nx by omega,aI]
     ·simp(disch:=omega)only[aL];exact he
     ·intro q hq
      rcases hq with hq |hq
      ·exact MM q hq
      ·rw[hq];exact IF
     ·intro q hq
      rcases hq with hq |hq
      ·exact xX q hq
      ·rw[hq];exact Oi
  ·have eK:K.drop j=[]:=aq (by omega);have aJ:=hv.out;rw[eK,Py]at aJ;simp only at aJ;have Mp:=TK (by omega)
   rcases dT with⟨rfl,rfl,rfl,rfl⟩ |⟨jJ,aX,bc,bk,b1,b2,b3,b4,b5,rfl,rfl,gc,gk⟩
   ·have hKe:∀hh,(aI K)[0]'hh=.int .i64 k0:=fun hh=>DC (by rw[aa (by omega),Mp]) hh;have Mr:0<K.length:=by omega
    simp-implicitDefEqProofs[go_sem,t3,t9,t17,t18,az,g0,Mr,hKe];have h0:n.kids.length=1:=by rw[aJ];rfl
    exact EC _ ax h0 he (by omega)
   ·have cO:¬k.length=1:=by
     have:c.length≠0:=fun e=>jJ (au e);omega
    have ei:¬(k.length:Int)=1:=by omega
    simp-implicitDefEqProofs[go_sem,t0,t9,t17,t18,az,g0,ei];have Uq:jH n:=by
     rw[aJ];exact⟨hi,MM,xX,by show c.length≤100000;omega,by show k.length≤100000;omega⟩
    have uk:¬n.kids.length=1:=by rw[aJ];exact cO
    have NK:n.cs=[.int .i64 i,.fz 1 false (aI c),.fz 1 false (aI k),.bool false]:=by rw[aJ];rfl
    refine DN (fun a=>a∈[bc,bk]) (iy.kill _) (args':=[.ptr p 0,.agg n.cs]) ?_ ?_
    ·rw[NK];refine .cons _ _ _ _ (.same _) (.cons _ _ _ _ (.agg _ _ (.cons _ _ _ _ (.same _) (.cons _ _ _ _ (zd (s:=c) (r:=[]) (by simp) (by rw[List.append_nil];exact gc)) (.cons _ _ _ _ (zd (s:=k) (r:=[]) (by simp) (by rw[List.append_nil];exact gk)) (.cons _ _ _ _ (.same _) .nil))))) .nil)
    have tW:jC O (jo h' [bc,bk]) ax p L:=hM.mono (fun _ h=>h) (fun a ha _=>by
     rw[oK (by simp;omega)];exact he a ha) (by omega)
    refine GK O _ _ p L n tW Uq hL _ fun O' g ny hk hm=>?_;obtain⟨k1,k2,k3⟩:=hk;simp-implicitDefEqProofs[go_sem,aB];refine hR O' g ny uk Uq ⟨by omega,fun a ha hO=>?_,fun a ha=>?_⟩ hm
    ·rw[k2 a (by omega) hO,oK (by simp;omega)];exact he a ha
    ·rcases k3 a ha with q |q
     ·exact .inl q
     ·exact .inr (by omega)
theorem zHy:cx.ft.get 206=some Tryz.f206:=aT (by decide) (by kernel_rfl)
def oF:List Int→Nat→List (AV×AV×Nat)
 |[],_=>[]
 |x::l,n=>(.int .i64 x,.int .i64 (n:Int),n)::oF l (n+1)
theorem zyn (x:Int):∀(l:List Int) (n:Nat),oF l n++[(.int .i64 x,.int .i64 ((n+l.length:Nat):Int),n+l.length)]=oF (l++[x]) n
 |[],n=>rfl
 |y::l,n=>by
  have:=zyn x l (n+1);simp only[oF,List.cons_append,List.length_cons];rw[← this,show n+(l.length+1)=n+1+l.length by omega]
def uV (x:Int):List Int→Nat→Option (Nat×AV)
 |[],_=>none
 |y::l,i=>if x=y then some (i,.int .i64 (i:Int)) else uV x l (i+1)
theorem XX (x:Int):∀(l:List Int) (n:Nat),mj (.int .i64) (.int .i64 x) (oF l n) n=some (uV x l n)
 |[],n=>rfl
 |y::l,n=>by
  rw[oF,DH,uV]
  by_cases e:x=y
  ·simp[lR,e,Q7,rC]
  ·have e2:(x == y)=false:=by simpa using e
   simp[lR,e,e2,Q7,rC,fN_eq,XX x l (n+1)]
@[go_sem] theorem zZc (x:Int)(l:List Int):mj (.int .i64) (.int .i64 x) (oF l 0) 0=some (uV x l 0):=XX x l 0
theorem PR {x:Int}:∀{l:List Int}(i:Nat),¬x∈l→uV x l i=none
 |[],_,_=>rfl
 |y::l,i,h=>by
  simp at h;rw[uV,if_neg h.1,PR (i+1) h.2]
theorem Qz {x:Int}:∀{l:List Int}(i:Nat),x∈l→uV x l i=some (i+l.findIdx (fun y=>decide (y=x)),.int .i64 ((i+l.findIdx (fun y=>decide (y=x)):Nat):Int))
 |[],_,h=>by cases h
 |y::l,i,h=>by
  rw[uV,List.findIdx_cons]
  by_cases e:x=y
  ·subst e;simp
  ·have e2:¬y=x:=fun q=>e q.symm;have hm:x∈l:=by
    rcases List.mem_cons.1 h with h1 |h1
    ·exact absurd h1 e
    ·exact h1
   rw[if_neg e,Qz (i+1) hm];simp only[e2,decide_false,cond_false];rw[show i+1+l.findIdx (fun y=>decide (y=x))=i+(l.findIdx (fun y=>decide (y=x))+1) by omega]
def my (o:List Int) (x:Int):Nat:=o.findIdx fun y=>decide (y=x)
def cN (L:List Nd):Nat→List Int→Int→List Int
 |0,o,_=>o
 |f+1,o,i=>if i∈o then o else ((L.getD i.toNat ⟨0,[],[],false⟩).kids).foldl (cN L f) (o++[i])
def WK (L:List Nd):Prop:=∀n∈L,∀x∈n.kids,0≤x∧x<L.length
def jX (L:List Nd)(o:List Int):Prop:=o.Nodup∧∀x∈o,0≤x∧x<(L.length:Int)
theorem Po:∀{l m:List Nat},l.Nodup→(∀x∈l,x∈m)→l.length≤m.length
 |[],m,_,_=>by simp
 |x::t,m,h,hs=>by
  have hx:x∈m:=hs x ao;obtain⟨h1,h2⟩:=List.nodup_cons.1 h;have:=Po (l:=t) (m:=m.erase x) h2 fun y hy=>(List.mem_erase_of_ne (fun e:y=x=>h1 (e ▸ hy))).2 (hs y (ak _ hy));rw[List.length_erase_of_mem hx]at this;have:=List.length_pos_of_mem hx;simp only[List.length_cons];omega
theorem jX.len {L:List Nd}{o:List Int}(h:jX L o):o.length≤L.length:=by
 have h1:(o.map Int.toNat).Nodup:=by
  refine List.pairwise_map.2 (h.1.imp_of_mem fun {a b} ha hb aQ=>?_);have:=h.2 a ha;have:=h.2 b hb;omega
 have h2:∀x∈o.map Int.toNat,x∈List.range L.length:=by
  intro x hx;obtain⟨y,hy,rfl⟩:=List.mem_map.1 hx;have:=h.2 y hy;exact List.mem_range.2 (by omega)
 have:=Po h1 h2;simpa using this
theorem jX.snoc {L:List Nd}{o:List Int}{i:Int}(h:jX L o)(hi:¬i∈o)(h1:0≤i∧i<(L.length:Int)):jX L (o++[i]):=by
 refine⟨List.nodup_append.2 ⟨h.1,by simp,?_⟩,?_⟩
 ·intro x hx y hy e;simp at hy;subst hy;exact hi (e ▸ hx)
 ·intro x hx
  rcases List.mem_append.1 hx with q |q
  ·exact h.2 x q
  ·simp at q;subst q;exact h1
theorem vj {L:List Nd}(hw:WK L):∀(f:Nat)(o:List Int) (i:Int),jX L o→0≤i∧i<(L.length:Int)→jX L (cN L f o i)∧o.length≤(cN L f o i).length
 |0,o,i,h,hi=>⟨h,ae _⟩
 |f+1,o,i,h,hi=>by
  rw[cN]
  by_cases hm:i∈o
  ·rw[if_pos hm];exact⟨h,ae _⟩
  ·rw[if_neg hm];have h1:=h.snoc hm hi;have key:∀(ks:List Int),(∀x∈ks,0≤x∧x<(L.length:Int))→∀o1,jX L o1→jX L (ks.foldl (cN L f) o1)∧o1.length≤(ks.foldl (cN L f) o1).length:=by
    intro ks
    induction ks with
    |nil=>intro _ o1 h1;exact⟨h1,ae _⟩
    |cons k ks ih=>
     intro hk o1 h1;obtain⟨a1,a2⟩:=vj hw f o1 k h1 (hk k ao);obtain⟨b1,b2⟩:=ih (fun x hx=>hk x (ak _ hx)) _ a1;exact⟨b1,by simp only[List.foldl_cons];omega⟩
   have hk:∀x∈(L.getD i.toNat ⟨0,[],[],false⟩).kids,0≤x∧x<(L.length:Int):=by
    have hl:i.toNat<L.length:=by omega
    rw[an,aa hl];exact hw _ (ai hl)
   obtain⟨a1,a2⟩:=key _ hk _ h1;refine⟨a1,?_⟩;rw[List.length_append]at a2;simp only[List.length_cons,List.length_nil]at a2;omega
structure VsSt (b p q:Nat)(o:List Int)(h:Tr ABlk) (nx:Nat):Prop where
 lb:b+6≤nx
 gm:h.get b=some (bx 182 [.ptr p 0] false 0)
 ge:h.get (b+2)=some (.map (oF o 0) o.length)
 gp:h.get (b+3)=some (bx 234 [.map (b+2)] false 0)
 gv:h.get (b+5)=some (bx 235 [.func 206 [] [.ptr (b+3) 0,.ptr (b+4) 0,.ptr b 0,.ptr (b+5) 0]] false 0)
 go:(o=[]∧h.get (b+4)=some (bx 40 [.sl0] false 0))∨(o≠[]∧b+6≤q∧q<nx∧h.get (b+4)=some (bx 40 [.sl q 0 o.length 0 true] false 0)∧h.get q=some (bx 3 (aI o) true 1))
def tK (b:Nat)(h g:Tr ABlk):Prop:=aA b h g∧g.get (b+1)=h.get (b+1)
theorem tK.trans {b:Nat}{h g f:Tr ABlk}(x:tK b h g)(y:tK b g f):tK b h f:=⟨fun k hk=>(y.1 k hk).trans (x.1 k hk),y.2.trans x.2⟩
theorem zS8 (L:List Nd) (b p:Nat)(hw:WK L)(eZ:∀n∈L,n.kids.length≤1000000)(hl:L.length≤1000000):∀(f:Nat)(o:List Int)(h:Tr ABlk) (nx q:Nat) (i:Int)(R:AV→Tr ABlk→Nat→Prop),jC (fun k=>k<b) h b p L→VsSt b p q o h nx→jX L o→0≤i∧i<(L.length:Int)→L.length<f+o.length→
  (∀g ny q',tK b h g→nx≤ny→VsSt b p q' (cN L f o i) g ny→R (.tup []) g ny)→aN Tryz.prog cx 206 [.int .i64 i,.ptr (b+3) 0,.ptr (b+4) 0,.ptr b 0,.ptr (b+5) 0] h nx R:=by
 intro f
 induction f with
 |zero=>
  intro o h nx q i R hM hS hO hi hf;have:=hO.len;omega
 |succ f ih=>
 intro o h nx q i R hM hS hO hi hf hR;refine aV (sz:=43) (rs:=[]) aE zHy rfl rfl rfl (by simp) ?_;rw[cN]at hR;obtain⟨lb,gm,ge,gp,gv,go⟩:=hS
 by_cases hm:i∈o
 ·rw[if_pos hm]at hR;have M0:=Qz 0 hm;simp-implicitDefEqProofs[go_sem,ge,gp,M0,bP];exact hR h nx q ⟨aA.refl _ _,rfl⟩ (ae _) ⟨lb,gm,ge,gp,gv,go⟩
 ·rw[if_neg hm]at hR;have M0:=PR 0 hm;have lF:i.toNat<L.length:=by omega
  obtain⟨iN,Ug⟩:∃iN:Nat,i=(iN:Int):=⟨i.toNat,by omega⟩;have iD:iN<L.length:=by omega
  have tX:=hO.snoc hm hi;have zS:(L.getD i.toNat ⟨0,[],[],false⟩).kids=L[iN].kids:=by
   rw[Ug,Int.toNat_natCast,an,aa iD];rfl
  rw[zS]at hR;have l5:∀x∈L[iN].kids,0≤x∧x<(L.length:Int):=hw _ (ai iD);have Nu:L[iN].kids.length≤1000000:=eZ _ (ai iD);have Cn:=hO.len;have FK:=tX.len;have hle:o.length+1≤16777216:=by
   rw[List.length_append]at FK;simp only[List.length_cons,List.length_nil]at FK;omega
  have TR:=hM;obtain⟨fH,ma,mb,gM,hU⟩:=hM;have hpb:=hU.2.2.1;obtain⟨_,_,_,ME⟩:=hU
  rcases ME with⟨e1,_,_⟩ |⟨l0,mm,mq,o1,o2,m1,q1,m2,q2,q3,e1,gmm,e2,Ej⟩
  ·rw[e1]at iD;simp at iD
  have gD:=J5 L iN _ (aa iD);have gE:=A6 L;have sA:∀hh,(L.flatMap Nd.cs)[iN * 4+2]'hh=.fz 1 false (aI L[iN].kids):=by
   intro hh;have h1:(L.flatMap Nd.cs)[iN * 4+2]?=some (.fz 1 false (aI L[iN].kids)):=by
    have:=congrArg (fun l:List AV=>l[2]?) gD;simp only[List.getElem?_take,List.getElem?_drop]at this;simpa[Nd.cs]using this
   rw[aa hh]at h1;exact Option.some.inj h1
  have uh:iN * 4+2<(L.flatMap Nd.cs).length:=by omega
  subst e2;generalize Ex:L.flatMap Nd.cs=LL at Ej sA uh;have b1:¬p=nx:=by omega
  have b2:¬b=nx:=by omega
  have b3:¬b+2=nx:=by omega
  have b4:¬b+4=nx:=by omega
  have b5:¬mq=nx:=by omega
  have b6:¬p=nx+1:=by omega
  have b7:¬b=nx+1:=by omega
  have b8:¬mq=nx+1:=by omega
  have b9:¬p=b+2:=by omega
  have SR:¬p=b+4:=by omega
  have SS:¬mq=b+2:=by omega
  have SW:¬mq=b+4:=by omega
  have HH:¬b+3=nx:=by omega
  have HJ:¬b+1=nx:=by omega
  subst Ug;obtain⟨O1,pQ⟩:∃O1,O1=o++[(iN:Int)]:=⟨_,rfl⟩;rw[← pQ]at hR tX;have Ez:O1.length=o.length+1:=by rw[pQ];simp
  have d1:¬nx=b+3:=by omega
  have d2:¬nx+1=b+2:=by omega
  have d3:¬b+5=nx:=by omega
  have d4:¬b=nx:=by omega
  have vQ:oF O1 0=oF o 0++[(.int .i64 (iN:Int),.int .i64 (o.length:Int),o.length)]:=by
   have:=zyn (iN:Int) o 0;rw[pQ,← this];simp
  have ED:∀g ny q',tK b h g→nx≤ny→VsSt b p q' (L[iN].kids.foldl (cN L f) O1) g ny→R (.tup []) g ny:=hR;clear hR
  rcases go with⟨Af,oV⟩ |⟨Af,oV,vR,ho4,ho5⟩
  ·have ho0:o.length=0:=by rw[Af];rfl
   have n9:O1=[(iN:Int)]:=by rw[pQ,Af];rfl
   have ge0:h.get (b+2)=some (.map (oF [] 0) 0):=by simpa[Af]using ge
   have M1:uV (iN:Int) [] 0=none:=rfl;have NH:oF O1 0=[(.int .i64 (iN:Int),.int .i64 0,0)]:=by rw[n9];rfl
   simp-implicitDefEqProofs[go_sem,gm,ge0,gp,M1,bP,oV,b1,b2,b4,b5,b6,b7,b8,b9,SR,SS,SW,HH,gM,Ej,iD,sA,uh,aG];generalize dh:Tr.put _ (b+4) _=h0;have kg:VsSt b p (nx+1) O1 h0 (nx+1+1):=by
    refine⟨by omega,?_,?_,?_,?_,.inr ⟨by rw[n9];simp,by omega,by omega,?_,?_⟩⟩
    all_goals (rw[← dh])
    ·simp[go_sem,gm,b2,b7]
    ·rw[NH,n9];simp[go_sem,b3,HJ,oF]
    ·simp[go_sem,gp,HH,show ¬b+2=nx by omega]
    ·simp[go_sem,gv,d3,b4]
    ·rw[n9];simp[go_sem]
    ·rw[n9];simp[go_sem,aI,d1]
   have Ms:tK b h h0:=by
    rw[← dh];refine⟨?_,?_⟩
    ·simp(disch:=omega)only[aL];exact aA.refl _ _
    ·simp[go_sem,d4,HJ]
   clear dh;refine bT (fun mm st=>∃tm h' ax k q' o',st=.mk tm h' ax []∧mm=L[iN].kids.length-k∧k≤L[iN].kids.length∧tm.get 4=some (.ptr (b+5) 0)∧tm.get 33=some (.fz 1 false (aI L[iN].kids))∧tm.get 34=some (.int .i64 (L[iN].kids.length:Int))∧tm.get 35=some (.int .i64 (k:Int))∧tK b h h'∧nx≤ax∧VsSt b p q' o' h' ax∧jX L o'∧O1.length≤o'.length∧RowKit.Hid (L[iN].kids.foldl (cN L f) O1=(L[iN].kids.drop k).foldl (cN L f) o')) ⟨L[iN].kids.length,_,_,_,0,nx+1,O1,rfl,by simp,by simp,?_⟩ ?_
   ·simp-implicitDefEqProofs[go_sem];exact⟨Ms,by omega,kg,tX,Lib.hid trivial⟩
   ·rintro mm' st ⟨tm,h',ax,k,q',o',rfl,rfl,hk,t4,t33,t34,t35,zn,qh,zq,r7,B8,hv⟩ J hJ
    refine bt aE _ ?_
    by_cases az:k<L[iN].kids.length
    ·have aJ:=hv.out;rw[aj az,List.foldl_cons]at aJ;have fq:=l5 _ (ai az);have HV:=Lib.hid aJ;clear aJ;generalize hy:L[iN].kids[k]=y at HV fq;have LU:=zq.gv;simp-implicitDefEqProofs[go_sem,t4,t33,t34,t35,az,hy,LU];refine ih o' h' ax q' y _ (TR.mono (fun _ h=>h) (fun a ha _=>zn.1 a ha) (ae _)) zq r7 fq (by omega) fun g ny q2 c1 c2 c3=>?_;obtain⟨v1,v2⟩:=vj hw f o' y r7 fq;simp-implicitDefEqProofs[go_sem,aB,t35];refine hJ (L[iN].kids.length-(k+1)) _ (by omega) ⟨_,_,_,k+1,q2,cN L f o' y,rfl,rfl,by omega,?_⟩;simp(disch:=omega) [go_sem,t4,t33,t34,aY];exact⟨zn.trans c1,by omega,c3,v1,by omega,HV⟩
    ·have aJ:=hv.out;rw[aq (by omega)]at aJ;simp only[List.foldl_nil]at aJ;simp-implicitDefEqProofs[go_sem,t34,t35,az];refine ED h' ax q' zn qh ?_;rw[aJ];exact zq
  ·have c1:¬q=b+2:=by omega
   have c2:¬q=nx:=by omega
   have c3:¬b+2=q:=by omega
   have c4:¬b+4=q:=by omega
   have c5:¬b=q:=by omega
   have c6:¬p=q:=by omega
   have c7:¬mq=q:=by omega
   have fo:=ve o;simp-implicitDefEqProofs[go_sem,gm,ge,gp,M0,bP,ho4,ho5,b1,b2,b4,b5,b6,b7,b8,b9,SR,SS,SW,HH,c1,c2,c4,c5,c6,c7,hle,gM,Ej,iD,sA,uh,aG];generalize dh:Tr.put _ (b+4) _=h0;have kg:VsSt b p (nx+1) O1 h0 (nx+1+1):=by
    refine⟨by omega,?_,?_,?_,?_,.inr ⟨by rw[pQ];simp,by omega,by omega,?_,?_⟩⟩
    all_goals (rw[← dh])
    ·simp[go_sem,gm,b2,b7,c5]
    ·rw[vQ,Ez];simp[go_sem,b3,HJ,c3]
    ·simp[go_sem,gp,HH,show ¬b+2=nx by omega,show ¬b+3=q by omega]
    ·simp[go_sem,gv,d3,b4,show ¬b+5=q by omega]
    ·rw[Ez];simp[go_sem]
    ·rw[pQ];simp[go_sem,aI,d1]
   have Ms:tK b h h0:=by
    rw[← dh];refine⟨?_,?_⟩
    ·simp(disch:=omega)only[aL];exact aA.refl _ _
    ·simp[go_sem,d4,HJ,show ¬b+1=q by omega]
   clear dh;refine bT (fun mm st=>∃tm h' ax k q' o',st=.mk tm h' ax []∧mm=L[iN].kids.length-k∧k≤L[iN].kids.length∧tm.get 4=some (.ptr (b+5) 0)∧tm.get 33=some (.fz 1 false (aI L[iN].kids))∧tm.get 34=some (.int .i64 (L[iN].kids.length:Int))∧tm.get 35=some (.int .i64 (k:Int))∧tK b h h'∧nx≤ax∧VsSt b p q' o' h' ax∧jX L o'∧O1.length≤o'.length∧RowKit.Hid (L[iN].kids.foldl (cN L f) O1=(L[iN].kids.drop k).foldl (cN L f) o')) ⟨L[iN].kids.length,_,_,_,0,nx+1,O1,rfl,by simp,by simp,?_⟩ ?_
   ·simp-implicitDefEqProofs[go_sem];exact⟨Ms,by omega,kg,tX,Lib.hid trivial⟩
   ·rintro mm' st ⟨tm,h',ax,k,q',o',rfl,rfl,hk,t4,t33,t34,t35,zn,qh,zq,r7,B8,hv⟩ J hJ
    refine bt aE _ ?_
    by_cases az:k<L[iN].kids.length
    ·have aJ:=hv.out;rw[aj az,List.foldl_cons]at aJ;have fq:=l5 _ (ai az);have HV:=Lib.hid aJ;clear aJ;generalize hy:L[iN].kids[k]=y at HV fq;have LU:=zq.gv;simp-implicitDefEqProofs[go_sem,t4,t33,t34,t35,az,hy,LU];refine ih o' h' ax q' y _ (TR.mono (fun _ h=>h) (fun a ha _=>zn.1 a ha) (ae _)) zq r7 fq (by omega) fun g ny q2 c1 c2 c3=>?_;obtain⟨v1,v2⟩:=vj hw f o' y r7 fq;simp-implicitDefEqProofs[go_sem,aB,t35];refine hJ (L[iN].kids.length-(k+1)) _ (by omega) ⟨_,_,_,k+1,q2,cN L f o' y,rfl,rfl,by omega,?_⟩;simp(disch:=omega) [go_sem,t4,t33,t34,aY];exact⟨zn.trans c1,by omega,c3,v1,by omega,HV⟩
    ·have aJ:=hv.out;rw[aq (by omega)]at aJ;simp only[List.foldl_nil]at aJ;simp-implicitDefEqProofs[go_sem,t34,t35,az];refine ED h' ax q' zn qh ?_;rw[aJ];exact zq
end
end Go.Ev
