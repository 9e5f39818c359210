/- Texts. -/
import Derived.Test.YtkdnmldmffkkoaaGreatDoorP12
set_option linter.all false
set_option maxRecDepth 100000
set_option maxHeartbeats 8000000
namespace Go.Ev
noncomputable section
section
open Go.Proofs
open Classical in
def fO (l:List ByteArray)(n:ByteArray):List ByteArray:=if n∈l then l else l++[n]
mutual
def mA (l:List ByteArray):Fm→List ByteArray
 |.mk o n _ _ kids=>qi (if o=4 then fO l n else l) kids
def qi (l:List ByteArray):List Fm→List ByteArray
 |[]=>l
 |f::t=>qi (mA l f) t
end
def ylj (l:List ByteArray)(n:ByteArray):(fO l n).length≤l.length+1:=by unfold fO;split <;> simp
mutual
def J1:∀(f:Fm)(l:List ByteArray),(mA l f).length≤l.length+f.size
 |.mk o n c m kids,l=>by
  rw[mA];have h1:=Xq kids (if o=4 then fO l n else l);have h2:(if o=4 then fO l n else l).length≤l.length+1:=by
   split
   ·exact ylj l n
   ·omega
  simp only[Fm.size];omega
def Xq:∀(t:List Fm)(l:List ByteArray),(qi l t).length≤l.length+bd t
 |[],l=>by simp[qi,bd]
 |f::t,l=>by
  have h1:=J1 f l;have h2:=Xq t (mA l f);simp only[qi,bd];omega
end
def nT (f g:Fm):List ByteArray:=(mA [] g).foldl fO (mA [] f)
def dM (l:List ByteArray):List Fc:=l.map fun n=>⟨n,1,0,1⟩
def mQ (cs:List Int):List ByteArray→Nat→List ByteArray
 |[],_=>[]
 |n::l,i=>if cs.getD i 0=1 then n::mQ cs l (i+1) else mQ cs l (i+1)
def Xf (cs:List Int):∀(l:List ByteArray) (i:Nat),(mQ cs l i).length≤l.length
 |[],i=>by simp[mQ]
 |n::l,i=>by
  have:=Xf cs l (i+1);rw[mQ];split <;> simp only[List.length_cons] <;> omega
def Xg (cs:List Int){n:ByteArray}:∀(l:List ByteArray) (i:Nat),n∈mQ cs l i↔∃(k:Nat)(h:k<l.length),l[k]=n∧cs.getD (i+k) 0=1
 |[],i=>by simp[mQ]
 |x::l,i=>by
  have ih:=Xg cs (n:=n) l (i+1);have h2:(∃(k:Nat) (h:k<(x::l).length),(x::l)[k]=n∧cs.getD (i+k) 0=1)↔(x=n∧cs.getD i 0=1)∨∃(k:Nat) (h:k<l.length),l[k]=n∧cs.getD (i+1+k) 0=1:=by
   constructor
   ·rintro⟨k,hk,e1,e2⟩
    cases k with
    |zero=>exact .inl ⟨e1,e2⟩
    |succ k=>exact .inr ⟨k,by simpa using hk,by simpa using e1,by rw[← e2];congr 1;omega⟩
   ·rintro (⟨e1,e2⟩ |⟨k,hk,e1,e2⟩)
    ·exact⟨0,by simp,e1,e2⟩
    ·exact⟨k+1,by simpa using hk,by simpa using e1,by rw[← e2];congr 1;omega⟩
  rw[h2,← ih,mQ]
  by_cases e:cs.getD i 0=1
  ·rw[if_pos e,List.mem_cons];constructor
   ·rintro (q |q)
    ·exact .inl ⟨q.symm,e⟩
    ·exact .inr q
   ·rintro (⟨q,_⟩ |q)
    ·exact .inl q.symm
    ·exact .inr q
  ·rw[if_neg e];exact⟨.inr,fun q=>q.elim (fun q=>absurd q.2 e) id⟩
end
section
open Go.Proofs
attribute [-go_sem] dN bX
def Xe:cx.ft.get 32=some Tryz.f32:=aO
def ym9:cx.ft.get 183=some Tryz.f183:=aO
def ym8:cx.ft.get 182=some Tryz.f182:=aO
def ymg:cx.ft.get 26=some Tryz.f26:=aO
def yme:cx.ft.get 24=some Tryz.f24:=aO
def ym4:cx.ft.get 112=some Tryz.f112:=aO
open Classical in
def yms (full:Bool)(l:List ByteArray)(x:ByteArray)(hl:l.length≤1000000000):aM 32 [.fz 1 full (bp l),.bs x] (.bool (decide (x∈l))):=by
 refine aB.mk fun h nx R hR=>aP Xe (sz:=18) (rs:=[.tmp 4]) ?_;simp[go_sem];refine bF (fun mm st=>∃tm k,st=.mk tm h nx []∧mm=l.length-k∧k≤l.length∧tm.get 0=some (.fz 1 full (bp l))∧tm.get 1=some (.bs x)∧tm.get 5=some (.int .i64 (k:Int))∧RowKit.Hid (¬x∈l.take k)) ⟨l.length,_,0,rfl,by simp,by simp,?_⟩ ?_
 ·simp[go_sem];exact Lib.hid trivial
 ·rintro mm st ⟨tm,k,rfl,rfl,hk,t0,t1,t5,hv⟩ J hJ
  refine bl ?_
  by_cases ay:k<l.length
  ·simp[go_sem,t0,t1,t5,ay];refine zG (fun hb=>?_) (fun hb=>?_)
   ·simp at hb;simp[go_sem];refine hR _ _ _ (az.refl _ _) (Fz.eq rfl ?_);have:x∈l:=hb ▸ ah ay;simp[this]
   ·simp at hb;simp[go_sem,t5];refine hJ (l.length-(k+1)) _ (by omega) ⟨_,k+1,rfl,rfl,by omega,?_⟩;simp(disch:=omega) [go_sem,t0,t1,aS];refine Lib.hid ?_;rw[List.take_succ_eq_append_getElem ay];intro hm
    rcases List.mem_append.1 hm with hm |hm
    ·exact hv.out hm
    ·simp at hm;exact hb hm.symm
  ·have:=hv.out;rw[ar (by omega)]at this;simp[go_sem,t0,t5,ay];refine hR _ _ _ (az.refl _ _) (Fz.eq rfl ?_);simp[this]
def ymr (x:ByteArray):aM 32 [.sl0,.bs x] (.bool false):=by
 refine aB.mk fun h nx R hR=>aP Xe (sz:=18) (rs:=[.tmp 4]) ?_;simp[go_sem];refine bF (fun mm st=>∃tm,st=.mk tm h nx []∧mm=0∧tm.get 0=some .sl0∧tm.get 1=some (.bs x)∧tm.get 5=some (.int .i64 0)) ⟨0,_,rfl,rfl,?_⟩ ?_
 ·simp[go_sem]
 ·rintro mm st ⟨tm,rfl,rfl,t0,t1,t5⟩ J hJ
  refine bl ?_;simp[go_sem,t0,t1,t5];exact hR _ _ _ (az.refl _ _) (Fz.eq rfl rfl)
open Classical in
def Xl (l:List ByteArray)(x:ByteArray)(hl:l.length≤1000000000):aM 32 [fe l,.bs x] (.bool (decide (x∈l))):=by
 unfold fe
 by_cases h:l=[]
 ·rw[if_pos h];subst h;simpa using ymr x
 ·rw[if_neg h];exact yms false l x hl
def Xm (u:Bool)(l:List Fc)(x:ByteArray)(hl:l.length≤1000000000):aM 183 [.agg [.fz 4 u (aN l)],.bs x] (.int .i64 (bj (fun f=>decide (f.name=x)) l)):=by
 refine aB.mk fun h nx R hR=>aP ym9 (sz:=22) (rs:=[.tmp 4]) ?_;simp[go_sem];obtain⟨H,hH⟩:∃H,H=h.put nx (some (bx 35 [.fz 4 u (aN l)] false 0)):=⟨_,rfl⟩;have g0:H.get nx=some (bx 35 [.fz 4 u (aN l)] false 0):=by rw[hH];simp[go_sem]
 have he:az nx h H:=by rw[hH];exact(az.refl nx h).put (ae _) _
 rw[← hH];clear hH;refine bF (fun mm st=>∃tm k,st=.mk tm H (nx+1) []∧mm=l.length-k∧k≤l.length∧tm.get 1=some (.bs x)∧tm.get 2=some (.ptr nx 0)∧tm.get 5=some (.int .i64 (k:Int))∧RowKit.Hid (bj (fun f:Fc=>decide (f.name=x)) l=rF (fun f:Fc=>decide (f.name=x)) l k)) ⟨l.length,_,0,rfl,by simp,by simp,?_⟩ ?_
 ·simp[go_sem];exact Lib.hid (Mt _ l).symm
 ·rintro mm st ⟨tm,k,rfl,rfl,hk,t1,t2,t5,hv⟩ J hJ
  refine bl ?_
  by_cases ay:k<l.length
  ·obtain⟨f,hf⟩:∃f,l[k]=f:=⟨_,rfl⟩
   by_cases hb:f.name=x
   ·have:=Lib.hid (Mr (p:=fun f:Fc=>decide (f.name=x)) ay (by rw[hf];simpa using hb));simp[go_sem,t1,t2,t5,g0,ay,hf,Fc.cs,hb];refine hR _ _ _ he (Fz.eq rfl ?_);rw[hv.out,this.out]
   ·have:=Lib.hid (Mn (p:=fun f:Fc=>decide (f.name=x)) ay (by rw[hf];simpa using hb));simp[go_sem,t1,t2,t5,g0,ay,hf,Fc.cs,hb];refine hJ (l.length-(k+1)) _ (by omega) ⟨_,k+1,rfl,rfl,by omega,?_⟩;simp(disch:=omega) [go_sem,t1,t2,aS];exact Lib.hid (by rw[hv.out,this.out])
  ·have:=Lib.hid (Mj (p:=fun f:Fc=>decide (f.name=x)) (l:=l) (k:=k) (by omega));simp[go_sem,t2,t5,g0,ay];refine hR _ _ _ he (Fz.eq rfl ?_);rw[hv.out,this.out]
def ylv (v cmp n:Int):aM 182 [.int .i64 v,.int .i64 cmp,.int .i64 n] (.bool (js v cmp n)):=by
 refine aB.mk fun h nx R hR=>aP ym8 (sz:=36) (rs:=[.tmp 6]) ?_;have fin:∀b,b=js v cmp n→R (.bool b) h nx:=fun b hb=>hR _ _ _ (az.refl _ _) (Fz.eq rfl (by rw[hb]))
 by_cases e1:cmp=1
 ·simp[go_sem,e1];exact fin _ (by simp[js,e1])
 by_cases e2:cmp=2
 ·simp[go_sem,e2];exact fin _ (by simp[js,e2])
 by_cases e3:cmp=3
 ·simp[go_sem,e3];exact fin _ (by simp[js,e3])
 by_cases e4:cmp=4
 ·simp[go_sem,e4];exact fin _ (by simp[js,e4])
 by_cases e5:cmp=5
 ·simp[go_sem,e5];exact fin _ (by simp[js,e5])
 simp[go_sem,e1,e2,e3,e4,e5];exact fin _ (by simp[js,e1,e2,e3,e4,e5])
def ir:List Int→List Int→Bool
 |x::l,y::m=>if x=y then ir l m else decide (x<y)
 |_,_=>false
def ymw (u v:Bool)(l m:List Int)(hl:l.length≤1000000000):aM 26 [.fz 1 u (aG l),.fz 1 v (aG m)] (.bool (ir l m)):=by
 refine aB.mk fun h nx R hR=>aP ymg (sz:=36) (rs:=[.tmp 4]) ?_;simp[go_sem];refine bF (fun mm st=>∃tm k,st=.mk tm h nx []∧mm=l.length-k∧k≤l.length∧k≤m.length∧tm.get 0=some (.fz 1 u (aG l))∧tm.get 1=some (.fz 1 v (aG m))∧tm.get 5=some (.int .i64 (k:Int))∧RowKit.Hid (ir l m=ir (l.drop k) (m.drop k))) ⟨l.length,_,0,rfl,by simp,by simp,by simp,?_⟩ ?_
 ·simp[go_sem];exact Lib.hid trivial
 ·rintro mm st ⟨tm,k,rfl,rfl,hk,dK,t0,t1,t5,hv⟩ J hJ
  refine bl ?_;have bg:=hv.out;clear hv
  by_cases ay:k<l.length
  ·by_cases cv:k<m.length
   ·rw[aj ay,aj cv,ir]at bg;have HV:=Lib.hid bg;clear bg;obtain⟨x,hx⟩:∃x,x=l[k]:=⟨_,rfl⟩;obtain⟨y,hy⟩:∃y,y=m[k]:=⟨_,rfl⟩;rw[← hx,← hy]at HV;simp[go_sem,t0,t1,t5,ay,cv];refine eI [] [] [] ?_;simp[go_sem,t0,t1,t5,ay,cv,← hx,← hy]
    by_cases hb:x=y
    ·rw[if_pos hb]at HV;simp[go_sem,t5,hb];refine hJ (l.length-(k+1)) _ (by omega) ⟨_,k+1,rfl,rfl,by omega,by omega,?_⟩;simp(disch:=omega) [go_sem,t0,t1,aS];exact HV
    ·rw[if_neg hb]at HV;simp[go_sem,hb];refine eI [] [] [] ?_;simp[go_sem,t0,t1,t5,ay,cv,← hx,← hy];exact hR _ _ _ (az.refl _ _) (Fz.eq rfl (by rw[HV.out]))
   ·rw[al (l:=m) (by omega)]at bg;have e:ir l m=false:=by rw[bg];cases l.drop k <;> rfl
    simp[go_sem,t0,t1,t5,ay,cv];exact hR _ _ _ (az.refl _ _) (Fz.eq rfl (by rw[e]))
  ·rw[al (l:=l) (by omega)]at bg;have e:ir l m=false:=by rw[bg];rfl
   simp[go_sem,t0,t1,t5,ay];exact hR _ _ _ (az.refl _ _) (Fz.eq rfl (by rw[e]))
def ymk:cx.ft.get 59=some Tryz.f59:=aO
def ymi:cx.ft.get 31=some Tryz.f31:=aO
def ymc:cx.ft.get 22=some Tryz.f22:=aO
def cL:Code→Code |.seq x _=>x |c=>c
def cR:Code→Code |.seq _ y=>y |c=>c
def cB:Code→Code |.block _ x=>x |.loop x=>x |c=>c
def cF (f:Func):Code:=f.body.getD .skip
def km (O:Nat→Prop)(h:Tr ABlk) (n:Nat)(v:AV)(l:List ByteArray):Prop:=(l=[]∧v=.sl0)∨(l≠[]∧∃q,O q∧cx.G.n≤q∧q<n∧v=.sl q 0 l.length 0 true∧h.get q=some (bx 9 (bp l) true 1))
def km.fz {O:Nat→Prop}{h:Tr ABlk}{n nx:Nat}{v:AV}{l:List ByteArray}(o:km O h n v l)(hn:∀k,O k→nx≤k):Fz h nx v (fe l):=by
 rcases o with⟨rfl,rfl⟩ |⟨e,q,q1,q2,q3,rfl,q4⟩
 ·exact .sl0
 ·unfold fe;rw[if_neg e];exact IN (hn q q1) q4
def km.bor {O:Nat→Prop}{h:Tr ABlk}{n:Nat}{v:AV}{l:List ByteArray}(o:km O h n v l):Fz h cx.G.n v (fe l):=by
 rcases o with⟨rfl,rfl⟩ |⟨e,q,q1,q2,q3,rfl,q4⟩
 ·exact .sl0
 ·unfold fe;rw[if_neg e];exact IN q2 q4
def km.keep {O O':Nat→Prop}{h g:Tr ABlk}{n m:Nat}{v:AV}{l:List ByteArray}(o:km O h n v l)(hk:∀k,O k→k<n→g.get k=h.get k)(hle:n≤m)(hO:∀k,O k→O' k):km O' g m v l:=by
 rcases o with⟨rfl,rfl⟩ |⟨e,q,q1,q2,q3,rfl,q4⟩
 ·exact .inl ⟨rfl,rfl⟩
 ·exact .inr ⟨e,q,hO q q1,q2,by omega,rfl,by rw[hk q q1 q3];exact q4⟩
def Xk {O:Nat→Prop}{h:Tr ABlk}{n:Nat}{v:AV}{l:List ByteArray}(o:km O h n v l)(x:ByteArray)(hl:l.length≤1000000000){R:AV→Tr ABlk→Nat→Prop}(hR:R (.bool (@decide (x∈l) (Classical.propDecidable _))) h n):di 32 [v,.bs x] h n R:=
 aB.useB uf (Xl l x hl) rfl (.cons _ _ _ _ o.bor (.cons _ _ _ _ (.bs _) .nil)) hR
def Qg (l:List ByteArray)(x:ByteArray):bp (l++[x])=bp l++[.bs x]:=by simp[bp]
def J3 {n:Nat}{O:Nat→Prop}{h:Tr ABlk}{nx:Nat}{kids:List Fm}{fc:List AV}(rO:fc.length=4)
  (ih:∀(f:Fm) (l:List ByteArray) (O:Nat→Prop) (h:Tr ABlk) (nx:Nat) (v:AV) (R:AV→Tr ABlk→Nat→Prop),f.size≤n→l.length+f.size≤16000000→cx.G.n≤nx→(∀k,O k→k<nx)→km O h nx v l→(∀v' O' g ny,ew O h nx O' g ny→(∀k,O' k→k<ny)→km O' g ny v' (mA l f)→R v' g ny)→di 59 [.agg f.cs,v] h nx R)
  (hs:bd kids≤n) {res:List ByteArray} {Q:AX→AS→Prop} {sz0:Nat} (hG:cx.G.n≤nx) (hb:sz0+bd kids≤16000000)
  (hQ:∀tm h' n' v' O',tm.get 1=some v'→ew O h nx O' h' n'→(∀j,O' j→j<n')→km O' h' n' v' res→Q (.exit 0) (.mk tm h' n' [])):
  ∀(tm:Tr AV) (h1:Tr ABlk) (n1:Nat) (v1:AV) (O1:Nat→Prop) (L:List ByteArray),tm.get 1=some v1→tm.get 2=some (.ptr nx 0)→tm.get 5=some (.int .i64 0)→h1.get nx=some (bx 24 (fc++[.fz 5 false (bU kids)]) false 0)→ew O h nx O1 h1 n1→(∀j,O1 j→j<n1∧j≠nx)→nx<n1→km O1 h1 n1 v1 L→L.length≤sz0→res=qi L kids→AW Tryz.prog cx false 36 (cB (cR (cL (cR (cR (cF Tryz.f59)))))) Q (.mk tm h1 n1 []):=by
 intro eg h1 n1 v1 O1 L1 t1 t2 t5 g0 K1 o1 ln hN hL hr;obtain⟨f0,f1,f2,f3,rfl⟩:∃f0 f1 f2 f3,fc=[f0,f1,f2,f3]:=by
  match fc,rO with
  |[a,b,c,d],_=>exact⟨a,b,c,d,rfl⟩
 simp only[List.cons_append,List.nil_append]at g0;have eO:=sI kids;simp only[cB,cR,cL,cF,Tryz.f59,Option.getD_some];refine bF (fun mm st=>∃tm h' n' k v' O' L,st=.mk tm h' n' []∧mm=kids.length-k∧k≤kids.length∧tm.get 1=some v'∧tm.get 2=some (.ptr nx 0)∧tm.get 5=some (.int .i64 (k:Int))∧h'.get nx=some (bx 24 [f0,f1,f2,f3,.fz 5 false (bU kids)] false 0)∧ew O h nx O' h' n'∧(∀j,O' j→j<n'∧j≠nx)∧nx<n'∧km O' h' n' v' L∧L.length≤sz0+bd (kids.take k)∧RowKit.Hid (res=qi L (kids.drop k))) ⟨kids.length,eg,h1,n1,0,v1,O1,L1,rfl,by simp,by simp,t1,t2,t5,g0,K1,o1,ln,hN,by simpa[bd]using hL,Lib.hid (by simpa using hr)⟩ ?_;clear t1 t2 t5 g0 K1 o1 ln hN hL hr
 rintro mm st ⟨tm,h',n',k,v',O',L,rfl,rfl,hk,t1,t2,t5,g0,K,oL,ln,hN,hL,hr⟩ J hJ
 refine bl ?_
 by_cases ay:k<kids.length
 ·obtain⟨s1,_,s3⟩:=nX ay;have rh:=hr.out;rw[aj ay,qi]at rh;have HR:=Lib.hid rh;clear rh hr;simp[go_sem,t1,t2,t5,g0,ay];refine ih kids[k] L O' h' n' v' _ (by omega) (by omega) (by omega) (fun j hj=>(oL j hj).1) hN ?_
  rintro v2 O2 g ny K2 o2 hN2
  have gn:g.get nx=h'.get nx:=K2.2.1 nx ln (fun q=>(oL nx q).2 rfl);rw[g0]at gn;simp[go_sem,aA,t5];have iO:=J1 kids[k] L;refine hJ (kids.length-(k+1)) _ (by omega) ⟨_,g,ny,k+1,v2,O2,mA L kids[k],rfl,rfl,by omega,?_⟩;simp(disch:=omega) [go_sem,t2,aS];have AT:=K2.1;refine⟨gn,K.trans K2,fun j hj=>⟨o2 j hj,fun e=>?_⟩,by omega,hN2,by omega,HR⟩
  rcases K2.2.2 j hj with q |q
  ·exact(oL j q).2 e
  ·omega
 ·have rh:=hr.out;rw[al (by omega),qi]at rh;simp[go_sem,t2,t5,g0,ay];exact hQ _ _ _ v' O' (by simp[go_sem,t1]) K (fun j hj=>(oL j hj).1) (rh ▸ hN)
def ymz (n:Nat):∀(f:Fm)(l:List ByteArray)(O:Nat→Prop)(h:Tr ABlk) (nx:Nat)(v:AV)(R:AV→Tr ABlk→Nat→Prop),f.size≤n→l.length+f.size≤16000000→cx.G.n≤nx→(∀k,O k→k<nx)→km O h nx v l→(∀v' O' g ny,ew O h nx O' g ny→(∀k,O' k→k<ny)→km O' g ny v' (mA l f)→R v' g ny)→di 59 [.agg f.cs,v] h nx R:=by
 induction n with
 |zero=>intro f l O h nx v R hf;cases f;simp[Fm.size]at hf
 |succ n ih=>
 rintro⟨o,nm,cm,num,kids⟩ l O h nx v R hf hl hG hO hv hR
 simp only[Fm.size]at hf hl;refine aP ymk (sz:=36) (rs:=[.tmp 4]) ?_;have pS:mA l (.mk o nm cm num kids)=qi (if o=4 then fO l nm else l) kids:=by rw[mA]
 rw[pS]at hR;clear pS;have OJ:¬O nx:=fun q=>by have:=hO nx q;omega
 have VJ:¬nx=nx+1+1:=by omega
 obtain⟨B,hB⟩:∃B,B=some (bx 24 [.int .i64 o,.bs nm,.int .i64 cm,.int .i64 num,.fz 5 false (bU kids)] false 0):=⟨_,rfl⟩;obtain⟨H,hH⟩:∃H,H=h.put nx B:=⟨_,rfl⟩;have g0:H.get nx=some (bx 24 ([.int .i64 o,.bs nm,.int .i64 cm,.int .i64 num]++[.fz 5 false (bU kids)]) false 0):=by rw[hH,hB];simp[go_sem]
 have CG:H.get nx=some (bx 24 [.int .i64 o,.bs nm,.int .i64 cm,.int .i64 num,.fz 5 false (bU kids)] false 0):=g0;have KH:ew O h nx O H (nx+1):=by
  rw[hH];exact ew.ext ((az.refl nx h).put (ae _) _) (by omega)
 have Js:km O H (nx+1) v l:=hv.keep (fun k hk Gd=>by rw[hH,Tr.get_put,if_neg (by omega)]) (by omega) (fun _ q=>q);have oH:∀j,O j→j<nx+1∧j≠nx:=fun j hj=>by have:=hO j hj;omega
 simp[go_sem,Fm.cs];rw[← hB,← hH]
 by_cases h4:o=4
 ·subst h4;rw[if_pos rfl]at hR;simp[go_sem,CG];refine Xk Js nm (by omega) ?_
  by_cases hm:nm∈l
  ·have ea:fO l nm=l:=by unfold fO;rw[if_pos hm]
   rw[ea]at hR;simp[go_sem,aA,hm];refine J3 (sz0:=l.length+1) (fc:=[_,_,_,_]) rfl ih (by omega) hG (by omega) ?_ _ _ _ v O l (by simp[go_sem]) (by simp[go_sem]) (by simp[go_sem]) g0 KH oH (by omega) Js (by omega) rfl;intro tm h' n' v' O' t1 K o' hN;simp[go_sem,t1];exact hR _ _ _ _ K o' hN
  ·have ea:fO l nm=l++[nm]:=by unfold fO;rw[if_neg hm]
   rw[ea]at hR;have hlen:(l++[nm]).length≤l.length+1:=by simp
   rcases Js with⟨rfl,rfl⟩ |⟨e,q,q1,q2,q3,rfl,q4⟩
   ·simp[go_sem,aA,CG];refine J3 (O:=O) (h:=h) (kids:=kids) (sz0:=1) (fc:=[.int .i64 4,.bs nm,.int .i64 cm,.int .i64 num]) rfl ih (by omega) hG (by simp at hl;omega) ?_ _ _ _ (.sl (nx+1+1) 0 1 0 true) (fun k=>k=nx+1+1) [nm] (by simp[go_sem]) (by simp[go_sem]) (by simp[go_sem]) ?_ ?_ (fun j hj=>by omega) (by omega) (.inr ⟨by simp,nx+1+1,rfl,by omega,by omega,rfl,?_⟩) (by simp) rfl
    ·intro tm h' n' v' O' t1 K o' hN;simp[go_sem,t1];exact hR _ _ _ _ K o' hN
    ·simp[go_sem,VJ];exact CG
    ·refine KH.trans ⟨by omega,fun k hk _=>?_,fun k hk=>.inr (by omega)⟩;have k1:¬k=nx+1:=by omega
     have k2:¬k=nx+1+1:=(by omega);simp[go_sem,k1,k2]
    ·simp[go_sem,bp]
   ·have nb:¬q=nx+1:=(by omega);have pY:¬nx+1=q:=(by omega);have Dp:¬q=nx:=fun e=>OJ (e ▸ q1);have G6:¬nx=q:=fun e=>Dp e.symm;have fo:=EB l;have hle:l.length+1≤16777216:=(by omega);simp[go_sem,aA,CG,hm,q4,nb,pY,fo,hle];refine J3 (O:=O) (h:=h) (kids:=kids) (sz0:=l.length+1) (fc:=[.int .i64 4,.bs nm,.int .i64 cm,.int .i64 num]) rfl ih (by omega) hG (by omega) ?_ _ _ _ (.sl (nx+1+1) 0 (l.length+1) 0 true) (fun k=>k=nx+1+1) (l++[nm]) (by simp[go_sem]) (by simp[go_sem]) (by simp[go_sem]) ?_ ?_ (fun j hj=>by omega) (by omega) (.inr ⟨by simp,nx+1+1,rfl,by omega,by omega,by simp,?_⟩) (by simp) rfl
    ·intro tm h' n' v' O' t1 K o' hN;simp[go_sem,t1];exact hR _ _ _ _ K o' hN
    ·simp[go_sem,G6,VJ];exact CG
    ·refine KH.trans ⟨by omega,fun k hk ho=>?_,fun k hk=>.inr (by omega)⟩;have k1:¬k=nx+1:=by omega
     have k2:¬k=nx+1+1:=(by omega);have k3:¬k=q:=fun e=>ho (e ▸ q1);simp[go_sem,k1,k2,k3]
    ·simp[go_sem,Qg]
 ·rw[if_neg h4]at hR;simp[go_sem,h4,CG];refine J3 (sz0:=l.length+1) (fc:=[_,_,_,_]) rfl ih (by omega) hG (by omega) ?_ _ _ _ v O l (by simp[go_sem]) (by simp[go_sem]) (by simp[go_sem]) g0 KH oH (by omega) Js (by omega) rfl;intro tm h' n' v' O' t1 K o' hN;simp[go_sem,t1];exact hR _ _ _ _ K o' hN
def ymd:cx.ft.get 23=some Tryz.f23:=aO
def ymf:cx.ft.get 25=some Tryz.f25:=aO
def Xv (f:Fm)(hf:f.size≤1000000)(h:Tr ABlk) (nx:Nat)(hG:cx.G.n≤nx)(R:AV→Tr ABlk→Nat→Prop)(hR:∀v g ny,az nx h g→nx≤ny→km (fun k=>nx≤k) g ny v (mA [] f)→R v g ny):di 31 [.agg f.cs] h nx R:=by
 refine aP ymi (sz:=5) (rs:=[.tmp 2]) ?_;obtain⟨cK,bn⟩:∃l,l=f.cs:=⟨_,rfl⟩;have iK:cK.length=5:=by rw[bn];cases f;rfl
 have bO:cK.take 5=cK:=ar (by omega);have E1:∀B,az nx h (h.put nx B):=fun B=>(az.refl nx h).put (ae _) _;have c1:=fun B=>ymz f.size f [] (fun _=>False) (h.put nx B) (nx+1) .sl0;rw[← bn]at c1 ⊢;simp[go_sem,iK,bO];refine c1 _ _ (ae _) (by simp;omega) (by omega) (fun _ q=>q.elim) (.inl ⟨rfl,rfl⟩) ?_
 rintro v' O' g ny K o' hN
 simp[go_sem,aA];have AT:=K.1;refine hR _ _ _ (fun k hk=>by rw[K.2.1 k (by omega) (fun q=>q)];exact E1 _ k hk) (by omega) (hN.keep (fun _ _ _=>rfl) (ae _) fun k hk=>?_)
 rcases K.2.2 k hk with q |q
 ·exact q.elim
 ·omega
end
section
open Go.Proofs
attribute [-go_sem] dN bX
def yn3 (a b:Pv)(ha:a.when_.size≤1000000)(hb:b.when_.size≤1000000):aM 22 [.agg a.cs,.agg b.cs] (fe (nT a.when_ b.when_)):=by
 have ca:=Xv a.when_ ha;have cb:=Xv b.when_ hb;have zH:=J1 a.when_ [];have Bj:=J1 b.when_ [];obtain⟨L,hL⟩:∃L,L=mA [] a.when_:=⟨_,rfl⟩;obtain⟨M,hM⟩:∃M,M=mA [] b.when_:=⟨_,rfl⟩;have hT:nT a.when_ b.when_=M.foldl fO L:=by rw[hL,hM];rfl
 rw[hT];rw[← hL]at ca zH;rw[← hM]at cb Bj;have UF:L.length≤1000000:=by simp at zH;omega
 have hMl:M.length≤1000000:=by simp at Bj;omega
 clear hL hM hT zH Bj ha hb
 rcases a with⟨id,rank,kind,name,value,⟨w1,w2,w3,w4,w5⟩,ex,⟨b1,b2,b3,b4⟩,⟨e1,e2,e3,e4⟩,⟨g1,g2,g3,g4⟩⟩
 rcases b with⟨iD,jf,jc,jd,fw,⟨qh,Hb,Hc,Hd,He⟩,qA,⟨yd,rK,Cv,ye⟩,⟨jF,pF,sN,qz⟩,⟨CH,CI,CJ,CM⟩⟩
 simp only[Fm.cs]at ca cb;refine aB.mk fun h nx R hR=>bf.ofLe fun hG=>aP ymc (sz:=35) (rs:=[.tmp 4]) ?_;simp[go_sem,Pv.cs,Fm.cs,bB.cs];refine ca _ _ (by omega) _ ?_
 rintro v g ny E1 l1 N1
 have gb:=E1 (nx+1) (by omega);simp[go_sem]at gb;have EX:az nx h g:=fun k hk=>by
  rw[E1 k (by omega)];have k1:¬k=nx:=by omega
  have k2:¬k=nx+1:=by omega
  simp[go_sem,k1,k2]
 simp[go_sem,aA,gb];refine cb _ _ (by omega) _ ?_
 rintro w g2 JD E2 l2 N2
 have Mv:az nx h g2:=fun k hk=>by rw[E2 k (by omega)];exact EX k hk
 have Mx:km (fun k=>nx≤k∧k<ny) g2 JD v L:=by
  rcases N1 with⟨r,q⟩ |⟨r,q,q1,q2,q3,q4,q5⟩
  ·exact .inl ⟨r,q⟩
  ·exact .inr ⟨r,q,⟨by omega,q3⟩,q2,by omega,q4,by rw[E2 q q3];exact q5⟩
 clear N1 E1 E2 gb EX;have fin:∀(H:Tr ABlk) (n':Nat) (O:Nat→Prop) (vv:AV),az nx h H→km O H n' vv (M.foldl fO L)→(∀k,O k→nx≤k)→R vv H n':=fun H n' O vv he o ho=>hR _ _ _ he (o.fz ho);clear hR
 rcases N2 with⟨wL,rfl⟩ |⟨_,q,q1,q2,q3,rfl,q5⟩
 ·subst wL;simp[go_sem,aA];refine bF (fun mm st=>∃tm,st=.mk tm g2 JD []∧mm=0∧tm.get 5=some v∧tm.get 6=some .sl0∧tm.get 7=some (.int .i64 0)) ⟨0,_,rfl,rfl,?_⟩ ?_
  ·simp[go_sem]
  ·rintro mm st ⟨tm,rfl,rfl,t5,t6,t7⟩ J hJ
   refine bl ?_;simp[go_sem,t5,t6,t7];exact fin _ _ _ _ Mv Mx fun k q=>q.1
 obtain⟨g9,tq⟩:∃g9,g9=jA g2 [q]:=⟨_,rfl⟩;have ot:∀k,k≠q→g9.get k=g2.get k:=fun k hk=>by rw[tq];exact oF (by simpa using hk)
 have EX9:az nx h g9:=fun k hk=>by rw[ot k (by omega)];exact Mv k hk
 have N9:km (fun k=>nx≤k∧k<ny) g9 JD v L:=Mx.keep (fun k hk _=>ot k (by omega)) (ae _) fun _ q=>q;simp[go_sem,aA];refine Co (fun a=>a∈[q]) (h':=g9) (by rw[tq];exact iG.kill _) (qw.refl.put (k:=6) (by simp[go_sem]) (MJ (F:=fun a=>a∈[q]) (b:=q) (s:=M) (cp:=0) (op:=true) (by simp) q5)) ?_;clear q5 ot tq Mv Mx;refine bF (fun mm st=>∃tm h' n' k v' O Lc,st=.mk tm h' n' []∧mm=M.length-k∧k≤M.length∧tm.get 5=some v'∧tm.get 6=some (.fz 1 false (bp M))∧tm.get 7=some (.int .i64 (k:Int))∧az nx h h'∧nx≤n'∧km O h' n' v' Lc∧(∀j,O j→nx≤j)∧Lc.length≤1000000+k∧RowKit.Hid (M.foldl fO L=(M.drop k).foldl fO Lc)) ⟨M.length,_,g9,JD,0,v,fun k=>nx≤k∧k<ny,L,rfl,by simp,by simp,?_⟩ ?_
 ·simp[go_sem];exact⟨EX9,by omega,N9,fun j h1 _=>h1,UF,Lib.hid trivial⟩
 ·rintro mm st ⟨tm,h',n',k,v',O,Lc,rfl,rfl,hk,t5,t6,t7,he,hn,hN,hO,hLc,hr⟩ J hJ
  refine bl ?_;have rh:=hr.out
  by_cases ay:k<M.length
  ·rw[aj ay,List.foldl_cons]at rh;obtain⟨x,hx⟩:∃x,x=M[k]:=⟨_,rfl⟩;rw[← hx]at rh;have HR:=Lib.hid rh;clear rh hr;simp[go_sem,t5,t6,t7,ay,← hx];refine Xk hN x (by omega) ?_
   by_cases hm:x∈Lc
   ·have ea:fO Lc x=Lc:=by unfold fO;rw[if_pos hm]
    rw[ea]at HR;simp[go_sem,aA,hm,t7];refine hJ (M.length-(k+1)) _ (by omega) ⟨_,_,_,k+1,v',O,Lc,rfl,rfl,by omega,?_⟩;simp(disch:=omega) [go_sem,t5,t6,aS];exact⟨he,hn,hN,hO,by omega,HR⟩
   ·have ea:fO Lc x=Lc++[x]:=by unfold fO;rw[if_neg hm]
    rw[ea]at HR
    rcases hN with⟨rfl,rfl⟩ |⟨e,p,p1,p2,p3,rfl,p4⟩
    ·simp[go_sem,aA,t5,t6,t7,ay,← hx];refine hJ (M.length-(k+1)) _ (by omega) ⟨_,_,_,k+1,.sl (n'+1) 0 1 0 true,fun j=>j=n'+1,[x],rfl,rfl,by omega,?_⟩;simp(disch:=omega) [go_sem,t6,aS];refine⟨?_,by omega,.inr ⟨by simp,n'+1,rfl,by omega,by omega,rfl,?_⟩,by omega,by omega,HR⟩
     ·simp(disch:=omega)only[aK,he]
     ·simp[go_sem,bp]
    ·have nb:¬p=n':=(by omega);have pY:¬n'=p:=(by omega);have fo:=EB Lc;have hle:Lc.length+1≤16777216:=(by omega);have hp:=hO p p1;simp[go_sem,aA,t5,t6,t7,ay,← hx,hm,p4,nb,pY,fo,hle];refine hJ (M.length-(k+1)) _ (by omega) ⟨_,_,_,k+1,.sl (n'+1) 0 (Lc.length+1) 0 true,fun j=>j=n'+1,Lc++[x],rfl,rfl,by omega,?_⟩;simp(disch:=omega) [go_sem,t6,aS];refine⟨?_,by omega,.inr ⟨by simp,n'+1,rfl,by omega,by omega,by simp,?_⟩,by omega,by omega,HR⟩
     ·simp(disch:=omega)only[aK,he]
     ·simp[go_sem,Qg]
  ·rw[al (by omega),List.foldl_nil]at rh;simp[go_sem,t5,t6,t7,ay];exact fin _ _ _ _ he (rh ▸ hN) hO
end
section
open Go.Proofs
attribute [-go_sem] dN bX
def ymh:cx.ft.get 262=some Tryz.f262:=aO
def yma:cx.ft.get 217=some Tryz.f217:=aO
def ym6:cx.ft.get 153=some Tryz.f153:=aO
def ymb:cx.ft.get 218=some Tryz.f218:=aO
def ym7:cx.ft.get 154=some Tryz.f154:=aO
def ym3:cx.ft.get 111=some Tryz.f111:=aO
def Xt (s:ByteArray)(hs:s.size≤1000000000)(hn:pC s):aM 262 [.bs s] (.bool true):=by
 refine aB.mk fun h nx R hR=>aP ymh (sz:=65) (rs:=[.tmp 2]) ?_;simp[go_sem];refine bF (fun mm st=>∃tm k,st=.mk tm h nx []∧mm=s.size-k∧k≤s.size∧tm.get 0=some (.bs s)∧tm.get 3=some (.int .i64 (k:Int))) ⟨s.size,_,0,rfl,by simp,by simp,?_⟩ ?_
 ·simp[go_sem]
 ·rintro mm st ⟨tm,k,rfl,rfl,hk,t0,t3⟩ J hJ
  refine bl ?_
  by_cases ay:k<s.size
  ·obtain⟨c,hc⟩:∃c:Int,((s[k]).toNat:Int)=c:=⟨_,rfl⟩;have oY:=hn.1 k ay;rw[hc]at oY;unfold iV at oY;simp +contextual -implicitDefEqProofs[go_sem,t0,t3,ay,hc];refine zG (fun hb=>?_) (fun hb=>?_)
   ·exfalso;simp at hb;omega
   ·simp[go_sem,t0,t3];refine hJ (s.size-(k+1)) _ (by omega) ⟨_,k+1,rfl,rfl,by omega,?_⟩;simp(disch:=omega) [go_sem,t0,t3,aS]
  ·have h0:0<s.size:=by
    by_cases q:s.size=0
    ·exact absurd (show s=.empty by simpa using q) hn.2.1
    ·omega
   have h1:(0:Int)<(s.size:Int):=(by omega);have h2:(s.size:Int)≤24:=by have:=hn.2.2;omega
   have aH:=hR (.bool true) h nx (az.refl _ _) (Fz.eq rfl rfl);simp +contextual -implicitDefEqProofs[go_sem,t0,t3,ay,h1,h2];rw[decide_eq_true h0];exact aH
def yn5 (b:Nat):∀f:Fm,f.size≤b→b≤1000000→aM 217 [.agg f.cs] (.tup [.int .i64 (f.size:Int),.int .i64 (f.deep:Int)]):=by
 induction b with
 |zero=>intro f hf;cases f;simp[Fm.size]at hf
 |succ b ih=>
 rintro⟨o,nm,cm,n,kids⟩ hf hb
 simp only[Fm.size,Fm.deep]at hf ⊢;have eO:=sI kids;refine aB.mk fun h nx R hR=>aP yma (sz:=34) (rs:=[.tmp 2,.tmp 3]) ?_;simp[go_sem,Fm.cs];refine bF (fun mm st=>∃tm h' ax k,st=.mk tm h' ax []∧mm=kids.length-k∧k≤kids.length∧tm.get 1=some (.ptr nx 0)∧tm.get 4=some (.int .i64 ((1+bd (kids.take k):Nat):Int))∧tm.get 5=some (.int .i64 ((iU (kids.take k):Nat):Int))∧tm.get 6=some (.int .i64 (k:Int))∧h'.get nx=some (bx 24 [.int .i64 o,.bs nm,.int .i64 cm,.int .i64 n,.fz 5 false (bU kids)] false 0)∧az nx h h'∧nx<ax) ⟨kids.length,_,_,_,0,rfl,by simp,by simp,?_⟩ ?_
 ·simp[go_sem,bd,iU];exact(az.refl nx h).put (ae _) _
 ·rintro mm st ⟨tm,h',ax,k,rfl,rfl,hk,t1,t4,t5,t6,g0,he,hn⟩ J hJ
  refine bl ?_
  by_cases ay:k<kids.length
  ·obtain⟨s1,s2,s3⟩:=nX ay;simp[go_sem,t1,t4,t5,t6,g0,ay];refine aB.use (ih _ (by omega) (by omega)) ?_;have hd:(max (iU (kids.take k)) (kids[k]).deep:Nat)≤1000000:=by have:=EE kids[k];have:=EE.deepL_le (kids.take k);omega
   have e2:(max ((iU (kids.take k):Nat):Int) (((kids[k]).deep:Nat):Int))=((max (iU (kids.take k)) (kids[k]).deep:Nat):Int):=(by omega);simp[go_sem,aA,t1,t4,t5,t6,g0,ay,e2];refine hJ (kids.length-(k+1)) _ (by omega) ⟨_,_,_,k+1,rfl,rfl,by omega,?_⟩;simp(disch:=omega) [go_sem,t1,t4,t5,t6,aS];exact⟨by omega,by omega,g0,he,hn⟩
  ·have e1:=ar (l:=kids) (i:=k) (by omega);rw[e1]at t4 t5;have hd:=EE.deepL_le kids;have w1:IntKind.i64.wrap (((iU kids:Nat):Int)+1)=((iU kids+1:Nat):Int):=by rw[aS _ (by omega) (by omega)];omega
   simp[go_sem,t1,t4,t5,t6,g0,ay,w1];exact hR _ _ _ he (Fz.eq rfl (by simp))
def ymt (f:Fm)(hf:f.size≤200)(hd:f.deep≤20):aM 153 [.agg f.cs] (.bool false):=by
 refine aB.mk fun h nx R hR=>aP ym6 (sz:=16) (rs:=[.tmp 2]) ?_;obtain⟨cK,bn⟩:∃l,l=f.cs:=⟨_,rfl⟩;have iK:cK.length=5:=by rw[bn];cases f;rfl
 have bO:cK.take 5=cK:=ar (by omega);have hc:=yn5 f.size f (ae _) (by omega);rw[← bn]at hc ⊢;have n1:¬(200:Int)<(f.size:Int):=by omega
 have n2:¬(20:Int)<(f.deep:Int):=by omega
 simp[go_sem,iK,bO];refine aB.use hc ?_;simp[go_sem,aA,n1,n2];exact hR _ _ _ ((az.refl nx h).put (ae _) _) (Fz.eq rfl rfl)
def Qd:Fm→Prop
 |.mk o n c m kids=>((o=1∨o=2)∧n=.empty∧c=0∧m=0∧kids=[])∨(o=3∧pC n∧1≤c∧c≤6∧kids=[])∨(o=4∧pC n∧c=0∧m=0∧kids=[])∨(o=5∧n=.empty∧c=0∧m=0∧kids.length=1)∨((o=6∨o=7)∧n=.empty∧c=0∧m=0∧2≤kids.length)
def ym2 (f:Fm)(hp:Qd f):aM 218 [.agg f.cs] (.bool true):=by
 refine aB.mk fun h nx R hR=>aP ymb (sz:=90) (rs:=[.tmp 2]) ?_;obtain⟨o,n,c,m,kids⟩:=f;have hf:R (.bool true) (h.put nx (some (bx 24 [.int .i64 o,.bs n,.int .i64 c,.int .i64 m,.fz 5 false (bU kids)] false 0))) (nx+1):=hR _ _ _ ((az.refl nx h).put (ae _) _) (Fz.eq rfl rfl);have e0:(ByteArray.empty:ByteArray)=⟨#[]⟩:=rfl
 rcases hp with⟨e,e1,e2,e3,e4⟩ |⟨e,e1,e2,e3,e4⟩ |⟨e,e1,e2,e3,e4⟩ |⟨e,e1,e2,e3,e4⟩ |⟨e,e1,e2,e3,e4⟩
 ·subst e1;subst e2;subst e3;subst e4
  rcases e with e |e <;> (subst e;simp +contextual [go_sem,Fm.cs,e0];exact hf)
 ·subst e;subst e4;have aT:¬n=(⟨#[]⟩:ByteArray):=e1.2.1;simp[go_sem,Fm.cs,aT,e2,e3];refine aB.use (Xt n (by have:=e1.2.2;omega) e1) ?_;simp[go_sem,aA];exact hf
 ·subst e;subst e2;subst e3;subst e4;have aT:¬n=(⟨#[]⟩:ByteArray):=e1.2.1;simp[go_sem,Fm.cs,aT];refine aB.use (Xt n (by have:=e1.2.2;omega) e1) ?_;simp[go_sem,aA];exact hf
 ·subst e;subst e1;subst e2;subst e3;simp[go_sem,Fm.cs,e0,e4];exact hf
 ·subst e1;subst e2;subst e3;have h2:(2:Int)≤(kids.length:Int):=by omega
  rcases e with e |e <;> (subst e;simp[go_sem,Fm.cs,e0,h2];exact hf)
end
section
open Go.Proofs
def xg {α:Type}{p:α→Prop}:∀{a b:List α}{x y:α}{r s:List α},(∀c∈a,p c)→(∀c∈b,p c)→¬p x→¬p y→a++x::r=b++y::s→a=b∧x=y∧r=s
 |[],[],x,y,r,s,_,_,_,_,h=>by
  simp only[List.nil_append,List.cons.injEq]at h;exact⟨rfl,h.1,h.2⟩
 |[],c::b,x,y,r,s,_,hb,hx,_,h=>by
  simp only[List.nil_append,List.cons_append,List.cons.injEq]at h;rw[h.1]at hx;exact absurd (hb c aq) hx
 |c::a,[],x,y,r,s,ha,_,_,hy,h=>by
  simp only[List.nil_append,List.cons_append,List.cons.injEq]at h;rw[← h.1]at hy;exact absurd (ha c aq) hy
 |c::a,e::b,x,y,r,s,ha,hb,hx,hy,h=>by
  simp only[List.cons_append,List.cons.injEq]at h;obtain⟨e1,e2,e3⟩:=xg (fun z hz=>ha z (an _ hz)) (fun z hz=>hb z (an _ hz)) hx hy h.2;exact⟨by rw[h.1,e1],e2,e3⟩
def zK (c:UInt8):Prop:=48≤c.toNat∧c.toNat≤57
def JO {u:Nat}(h:u<10):(UInt8.ofNat (48+u)).toNat=48+u:=by
 rw[UInt8.toNat_ofNat'];omega
def JN (u:Nat):∀c∈Lib.decDigits u,zK c:=by
 induction u using Nat.strongRecOn with
 |_ u ih=>
  intro c hc;rw[Lib.decDigits]at hc;split at hc
  ·rename_i h;simp only[List.mem_singleton]at hc;rw[hc];have:=JO h;exact⟨by omega,by omega⟩
  ·rename_i h
   rcases List.mem_append.1 hc with q |q
   ·exact ih (u / 10) (by omega) c q
   ·simp only[List.mem_singleton]at q;rw[q];have:=JO (u:=u % 10) (by omega);exact⟨by omega,by omega⟩
def PR (l:List UInt8):Nat:=l.foldl (fun a c=>a * 10+(c.toNat-48)) 0
def Wi (u:Nat):PR (Lib.decDigits u)=u:=by
 induction u using Nat.strongRecOn with
 |_ u ih=>
  rw[Lib.decDigits];split
  ·rename_i h;have:=JO h;simp only[PR,List.foldl_cons,List.foldl_nil];omega
  ·rename_i h;have h1:=ih (u / 10) (by omega);have:=JO (u:=u % 10) (by omega);unfold PR at h1 ⊢;rw[List.foldl_append,h1];simp only[List.foldl_cons,List.foldl_nil];omega
def Wj {u v:Nat}(h:Lib.decDigits u=Lib.decDigits v):u=v:=by rw[← Wi u,h,Wi]
def yia (u:Nat):Lib.decDigits u≠[]:=by
 rw[Lib.decDigits];split <;> simp
def Bx {n:Int}(h:0≤n):∀c∈Lib.itoa n,zK c:=by
 rw[Lib.itoa,if_neg (by omega)];exact JN _
def DA {n:Int}(x:UInt8)(h:¬zK x)(h2:x≠45):∀c∈Lib.itoa n,c≠x:=by
 intro c hc e;rw[Lib.itoa]at hc;split at hc
 ·rcases List.mem_cons.1 hc with q |q
  ·exact h2 (e ▸ q)
  ·exact h (e ▸ JN _ c q)
 ·exact h (e ▸ JN _ c hc)
def Dz {n m:Int}(h:Lib.itoa n=Lib.itoa m):n=m:=by
 have gE:∀u l,Lib.decDigits u≠45::l:=fun u l e=>by
  have:=JN u 45 (by rw[e];exact aq);exact absurd this.1 (by decide)
 rw[Lib.itoa,Lib.itoa]at h;split at h <;> split at h
 ·have:=Wj (List.cons.inj h).2;omega
 ·exact absurd h.symm (gE _ _)
 ·exact absurd h (gE _ _)
 ·have:=Wj h;omega
def yiy (n:Int):Lib.itoa n≠[]:=by
 rw[Lib.itoa];split
 ·simp
 ·exact yia _
def P3:∀{l m:List Int},mF l=mF m→l=m
 |[],[],_=>rfl
 |[],k::m,h=>by simp[mF]at h
 |k::l,[],h=>by simp[mF]at h
 |k::l,j::m,h=>by
  rw[mF,mF]at h;obtain⟨a,_,b⟩:=xg (p:=fun c:UInt8=>c≠44) (DA 44 (fun q=>absurd q.1 (by decide)) (by decide)) (DA 44 (fun q=>absurd q.1 (by decide)) (by decide)) (by simp) (by simp) h;rw[Dz a,P3 b]
def P4:∀(l:List Int),∀c∈mF l,c≠58
 |[],c,h=>by cases h
 |k::l,c,h=>by
  rw[mF]at h
  rcases List.mem_append.1 h with q |q
  ·exact DA 58 (fun q=>absurd q.2 (by decide)) (by decide) c q
  ·rcases List.mem_cons.1 q with q |q
   ·rw[q];decide
   ·exact P4 l c q
def WB {n m:Nd}(h:bV n=bV m):n=m:=by
 have h1:Hk n=Hk m:=by
  have:=congrArg (fun s:ByteArray=>s.data.toList) h;simpa[bV]using this
 obtain⟨f,c,k,l⟩:=n;obtain⟨f2,c2,k2,l2⟩:=m;simp only[Hk,List.cons.injEq]at h1;obtain⟨e1,e2⟩:=h1;have hN:∀i:Int,∀c∈Lib.itoa i,c≠58:=fun i=>DA 58 (fun q=>absurd q.2 (by decide)) (by decide);simp only[List.cons_append]at e2;obtain⟨a1,_,a2⟩:=xg (p:=fun c:UInt8=>c≠58) (hN f) (hN f2) (by simp) (by simp) e2;obtain⟨b1,_,b2⟩:=xg (p:=fun c:UInt8=>c≠58) (P4 c) (P4 c2) (by simp) (by simp) a2;rw[Dz a1,P3 b1,P3 b2];cases l <;> cases l2 <;> simp at e1 ⊢
def Bw (n:ByteArray):Prop:=n=.empty∨pC n
def WE {n:ByteArray}(h:Bw n):∀c∈n.data.toList,c≠44:=by
 intro c hc e
 rcases h with h |h
 ·rw[h]at hc;cases hc
 ·obtain⟨i,hi,e2⟩:=List.getElem_of_mem hc;have Ax:i<n.size:=by simpa using hi
  have:=h.1 i Ax;have e3:n[i]=c:=by rw[← e2];rfl
  rw[e3,e]at this;unfold iV at this;have e4:((44:UInt8).toNat:Int)=44:=rfl;rw[e4]at this;omega
def JR {n:ByteArray}(h:Bw n)(r:List UInt8):∃x s,n.data.toList++44::r=x::s∧¬zK x:=by
 rcases h with h |h
 ·rw[h];exact⟨44,r,rfl,fun q=>absurd q.1 (by decide)⟩
 ·match hd:n.data.toList with
  |[]=>exact⟨44,r,rfl,fun q=>absurd q.1 (by decide)⟩
  |x::s=>
   refine⟨x,s++44::r,rfl,fun q=>?_⟩;have hl:n.data.toList.length=s.length+1:=by rw[hd];rfl
   have Ax:0<n.size:=by
    have:n.size=n.data.toList.length:=(by simp);omega
   have:=h.1 0 Ax;have e3:n[0]=x:=by
    have:n[0]=n.data.toList[0]'(by rw[hl];omega):=rfl;rw[this];simp[hd]
   rw[e3]at this;unfold iV at this;obtain⟨q1,q2⟩:=q;omega
mutual
def we:Fm→Prop
 |.mk o n _ _ kids=>1≤o∧o≤9∧Bw n∧Hh kids
def Hh:List Fm→Prop
 |[]=>True
 |f::l=>we f∧Hh l
end
def WN {f:Fm}(h:we f)(r:List UInt8):∃x s,iW f++r=x::s∧zK x:=by
 obtain⟨o,n,c,m,kids⟩:=f
 match hi:Lib.itoa o with
 |[]=>exact absurd hi (yiy o)
 |x::t=>
  refine⟨x,_,by rw[iW,hi];rfl,?_⟩;exact Bx (n:=o) (by have:=h.1;omega) x (by rw[hi];exact aq)
mutual
def WO:∀(f g:Fm)(r s:List UInt8),we f→we g→iW f++r=iW g++s→f=g∧r=s
 |.mk o n c m kids,.mk o2 n2 c2 m2 lM,r,s,hf,hg,h=>by
  obtain⟨f1,f2,f3,f4⟩:=hf;obtain⟨g1,g2,g3,g4⟩:=hg;simp only[iW,List.append_assoc,List.cons_append,List.nil_append]at h;obtain⟨x,t,ex,dx⟩:=JR f3 (Lib.itoa c++44::(Lib.itoa m++40::(gY kids++41::r)));obtain⟨y,u,ey,dy⟩:=JR g3 (Lib.itoa c2++44::(Lib.itoa m2++40::(gY lM++41::s)));rw[ex,ey]at h;obtain⟨a1,a2,a3⟩:=xg (p:=zK) (Bx (by omega)) (Bx (by omega)) dx dy h;have h2:n.data.toList++44::(Lib.itoa c++44::(Lib.itoa m++40::(gY kids++41::r)))=n2.data.toList++44::(Lib.itoa c2++44::(Lib.itoa m2++40::(gY lM++41::s))):=by rw[ex,ey,a2,a3]
  obtain⟨b1,_,b2⟩:=xg (p:=fun c:UInt8=>c≠44) (WE f3) (WE g3) (by simp) (by simp) h2;have hN:∀i:Int,∀c∈Lib.itoa i,c≠44:=fun i=>DA 44 (fun q=>absurd q.1 (by decide)) (by decide);have hM:∀i:Int,∀c∈Lib.itoa i,c≠40:=fun i=>DA 40 (fun q=>absurd q.1 (by decide)) (by decide);obtain⟨c1,_,c3⟩:=xg (p:=fun c:UInt8=>c≠44) (hN c) (hN c2) (by simp) (by simp) b2;obtain⟨d1,_,d3⟩:=xg (p:=fun c:UInt8=>c≠40) (hM m) (hM m2) (by simp) (by simp) c3;obtain⟨k1,k2⟩:=WM kids lM r s f4 g4 d3;have hn:n=n2:=by
   obtain⟨⟨l⟩⟩:=n;obtain⟨⟨l2⟩⟩:=n2;simp only at b1;rw[b1]
  rw[Dz a1,hn,Dz c1,Dz d1,k1];exact⟨rfl,k2⟩
def WM:∀(l m:List Fm)(r s:List UInt8),Hh l→Hh m→gY l++41::r=gY m++41::s→l=m∧r=s
 |[],[],r,s,_,_,h=>by
  simp only[gY,List.nil_append,List.cons.injEq]at h;exact⟨rfl,h.2⟩
 |[],g::m,r,s,_,hm,h=>by
  simp only[gY,List.nil_append,List.append_assoc]at h;obtain⟨x,t,e,d⟩:=WN hm.1 (gY m++41::s);rw[e,List.cons.injEq]at h;rw[← h.1]at d;exact absurd d.1 (by decide)
 |f::l,[],r,s,hl,_,h=>by
  simp only[gY,List.nil_append,List.append_assoc]at h;obtain⟨x,t,e,d⟩:=WN hl.1 (gY l++41::r);rw[e,List.cons.injEq]at h;rw[h.1]at d;exact absurd d.1 (by decide)
 |f::l,g::m,r,s,hl,hm,h=>by
  simp only[gY,List.append_assoc]at h;obtain⟨e1,e2⟩:=WO f g _ _ hl.1 hm.1 h;obtain⟨e3,e4⟩:=WM l m r s hl.2 hm.2 e2;rw[e1,e3];exact⟨rfl,e4⟩
end
def WA {o:Int}(h:1≤o∧o≤9):(Lib.itoa o).length=1:=by
 rw[Lib.itoa,if_neg (by omega),Lib.decDigits,dif_pos (by omega)];rfl
def yjp {i j:Nat}{f g:Fm}(hf:we f)(hg:we g)(h:sJ i f=sJ j g):i=j∧f=g:=by
 have h1:Lib.itoa (i:Int)++iW f=Lib.itoa (j:Int)++iW g:=by
  have:=congrArg (fun s:ByteArray=>s.data.toList) h;simpa[sJ]using this
 obtain⟨o,n,c,m,kids⟩:=f;obtain⟨o2,n2,c2,m2,lM⟩:=g;obtain⟨f1,f2,f3,f4⟩:=hf;obtain⟨g1,g2,g3,g4⟩:=hg;have h2:=h1;simp only[iW]at h1;obtain⟨x,t,ex,dx⟩:=JR f3 (Lib.itoa c++44::(Lib.itoa m++40::(gY kids++[41])));obtain⟨y,u,ey,dy⟩:=JR g3 (Lib.itoa c2++44::(Lib.itoa m2++40::(gY lM++[41])));rw[ex,ey,← List.append_assoc,← List.append_assoc]at h1;obtain⟨a1,a2,a3⟩:=xg (p:=zK) (a:=Lib.itoa (i:Int)++Lib.itoa o) (b:=Lib.itoa (j:Int)++Lib.itoa o2) (fun z hz=>by
  rcases List.mem_append.1 hz with q |q
  ·exact Bx (by omega) z q
  ·exact Bx (by omega) z q) (fun z hz=>by
  rcases List.mem_append.1 hz with q |q
  ·exact Bx (by omega) z q
  ·exact Bx (by omega) z q) dx dy h1
 obtain⟨b1,b2⟩:=List.append_inj' a1 (by rw[WA ⟨f1,f2⟩,WA ⟨g1,g2⟩]);rw[b1]at h2;have h3:=List.append_cancel_left h2;have h4:=WO (.mk o n c m kids) (.mk o2 n2 c2 m2 lM) [] [] ⟨f1,f2,f3,f4⟩ ⟨g1,g2,g3,g4⟩ (by simpa using h3);have:=Dz b1;exact⟨by omega,h4.1⟩
mutual
def hF (ρ:ByteArray→Int):Fm→Bool
 |.mk o n c m kids=>if o=1 then true else if o=2 then false else if o=3 then js (ρ n) c m else if o=4 then js (ρ n) 1 1 else if o=5 then !hA ρ kids else if o=6 then hA ρ kids else hO ρ kids
def hA (ρ:ByteArray→Int):List Fm→Bool
 |[]=>true
 |f::l=>hF ρ f && hA ρ l
def hO (ρ:ByteArray→Int):List Fm→Bool
 |[]=>false
 |f::l=>hF ρ f || hO ρ l
end
mutual
def Wt (ρ:ByteArray→Int):∀f:Fm,hF ρ (bL f)=hF ρ f
 |.mk o n c m kids=>by
  obtain⟨h1,h2⟩:=Wu ρ kids;rw[bL]
  by_cases e:o=4
  ·rw[if_pos e,e];simp[hF]
  ·rw[if_neg e];simp only[hF,h1,h2]
def Wu (ρ:ByteArray→Int):∀l:List Fm,hA ρ (uC l)=hA ρ l∧hO ρ (uC l)=hO ρ l
 |[]=>by rw[uC];exact⟨rfl,rfl⟩
 |f::l=>by
  obtain⟨h1,h2⟩:=Wu ρ l;have h3:=Wt ρ f;rw[uC];simp only[hA,hO,h1,h2,h3];exact⟨trivial,trivial⟩
end
mutual
def RW (Q T:ByteArray→Prop):Fm→Prop
 |.mk o n c m kids=>((o=1∨o=2)∧n=.empty∧c=0∧m=0∧kids=[])∨(o=3∧Q n∧0≤m∧m≤1000000∧kids=[])∨(o=4∧T n∧kids=[])∨(o=5∧n=.empty∧c=0∧m=0∧kids.length=1∧ko Q T kids)∨((o=6∨o=7)∧n=.empty∧c=0∧m=0∧2≤kids.length∧ko Q T kids)
def ko (Q T:ByteArray→Prop):List Fm→Prop
 |[]=>True
 |f::l=>RW Q T f∧ko Q T l
end
mutual
def V8 {Q T:ByteArray→Prop}{ρ τ:ByteArray→Int}(hQ:∀n,Q n→ρ n=τ n)(hT:∀n,T n→ρ n=τ n):∀{f:Fm},RW Q T f→hF ρ f=hF τ f
 |.mk o n c m kids,h=>by
  rcases h with⟨e,_⟩ |⟨e,q,_⟩ |⟨e,q,_⟩ |⟨e,_,_,_,_,q⟩ |⟨e,_,_,_,_,q⟩
  ·rcases e with e |e <;> simp[hF,e]
  ·simp[hF,e,hQ n q]
  ·simp[hF,e,hT n q]
  ·simp[hF,e,(PY hQ hT q).1]
  ·obtain⟨q1,q2⟩:=PY hQ hT q
   rcases e with e |e <;> simp[hF,e,q1,q2]
def PY {Q T:ByteArray→Prop}{ρ τ:ByteArray→Int}(hQ:∀n,Q n→ρ n=τ n)(hT:∀n,T n→ρ n=τ n):∀{l:List Fm},ko Q T l→hA ρ l=hA τ l∧hO ρ l=hO τ l
 |[],_=>⟨rfl,rfl⟩
 |f::l,h=>by
  obtain⟨q1,q2⟩:=PY hQ hT h.2;simp only[hA,hO,q1,q2,V8 hQ hT h.1];exact⟨trivial,trivial⟩
end
mutual
def RN (Q:ByteArray→Prop):Fm→Prop
 |.mk o n c m kids=>(o=3∧Q n∧0≤m∧m≤1000000∧kids=[])∨(o=5∧n=.empty∧c=0∧m=0∧kids.length=1∧mG Q kids)∨((o=6∨o=7)∧n=.empty∧c=0∧m=0∧2≤kids.length∧mG Q kids)
def mG (Q:ByteArray→Prop):List Fm→Prop
 |[]=>True
 |f::l=>RN Q f∧mG Q l
end
def RC (Q:ByteArray→Prop)(f:Fm):Prop:=(∃b,f=lj b)∨RN Q f
def PM {Q:ByteArray→Prop}:∀{l:List Fm},(∀f∈l,RN Q f)→mG Q l
 |[],_=>trivial
 |_::_,h=>⟨h _ aq,PM fun f hf=>h f (an _ hf)⟩
mutual
def RN.rw {Q T:ByteArray→Prop}:∀{f:Fm},RN Q f→RW Q T f
 |.mk o n c m kids,h=>by
  rcases h with q |⟨e,e1,e2,e3,e4,q⟩ |⟨e,e1,e2,e3,e4,q⟩
  ·exact .inr (.inl q)
  ·exact .inr (.inr (.inr (.inl ⟨e,e1,e2,e3,e4,mG.rw q⟩)))
  ·exact .inr (.inr (.inr (.inr ⟨e,e1,e2,e3,e4,mG.rw q⟩)))
def mG.rw {Q T:ByteArray→Prop}:∀{l:List Fm},mG Q l→ko Q T l
 |[],_=>trivial
 |_::_,h=>⟨RN.rw h.1,mG.rw h.2⟩
end
def RC.rw {Q T:ByteArray→Prop}{f:Fm}(h:RC Q f):RW Q T f:=by
 rcases h with⟨b,rfl⟩ |h
 ·cases b
  ·exact .inl ⟨.inr rfl,rfl,rfl,rfl,rfl⟩
  ·exact .inl ⟨.inl rfl,rfl,rfl,rfl,rfl⟩
 ·exact h.rw
mutual
def RN.has {Q:ByteArray→Prop}:∀{f:Fm},RN Q f→∃n,Q n
 |.mk o n c m kids,h=>by
  rcases h with⟨_,q,_⟩ |⟨_,_,_,_,e4,q⟩ |⟨_,_,_,_,e4,q⟩
  ·exact⟨n,q⟩
  ·exact mG.has q (by omega)
  ·exact mG.has q (by omega)
def mG.has {Q:ByteArray→Prop}:∀{l:List Fm},mG Q l→1≤l.length→∃n,Q n
 |[],_,h=>by simp at h
 |_::_,h,_=>RN.has h.1
end
mutual
def RN.sp {Q:ByteArray→Prop}(hQ:∀n,Q n→Bw n):∀{f:Fm},RN Q f→we f
 |.mk o n c m kids,h=>by
  rcases h with⟨e,q,_,_,k⟩ |⟨e,e1,_,_,_,q⟩ |⟨e,e1,_,_,_,q⟩
  ·subst k;exact⟨by omega,by omega,hQ n q,trivial⟩
  ·exact⟨by omega,by omega,.inl e1,mG.sp hQ q⟩
  ·exact⟨by omega,by omega,.inl e1,mG.sp hQ q⟩
def mG.sp {Q:ByteArray→Prop}(hQ:∀n,Q n→Bw n):∀{l:List Fm},mG Q l→Hh l
 |[],_=>trivial
 |_::_,h=>⟨RN.sp hQ h.1,mG.sp hQ h.2⟩
end
def RC.sp {Q:ByteArray→Prop}(hQ:∀n,Q n→Bw n){f:Fm}(h:RC Q f):we f:=by
 rcases h with⟨b,rfl⟩ |h
 ·cases b
  ·exact⟨by simp,by simp,.inl rfl,trivial⟩
  ·exact⟨by simp,by simp,.inl rfl,trivial⟩
 ·exact h.sp hQ
def RN.op {Q:ByteArray→Prop}{f:Fm}(h:RN Q f):¬f.op=1∧¬f.op=2:=by
 obtain⟨o,n,c,m,kids⟩:=f;simp only[Fm.op]
 rcases h with⟨e,_⟩ |⟨e,_⟩ |⟨e,_⟩ <;> omega
def yhb (b:Bool):(lj b).op=if b then 1 else 2:=rfl
def xe (ρ:ByteArray→Int)(b:Bool):hF ρ (lj b)=b:=by cases b <;> simp[hF,lj]
def RC.one {Q:ByteArray→Prop}{f:Fm}(h:RC Q f)(e:f.op=1):f=lj true:=by
 rcases h with⟨b,rfl⟩ |h
 ·cases b
  ·simp[lj,Fm.op]at e
  ·rfl
 ·exact absurd e h.op.1
def RC.two {Q:ByteArray→Prop}{f:Fm}(h:RC Q f)(e:f.op=2):f=lj false:=by
 rcases h with⟨b,rfl⟩ |h
 ·cases b
  ·rfl
  ·simp[lj,Fm.op]at e
 ·exact absurd e h.op.2
def RC.rn {Q:ByteArray→Prop}{f:Fm}(h:RC Q f)(e1:¬f.op=1)(e2:¬f.op=2):RN Q f:=by
 rcases h with⟨b,rfl⟩ |h
 ·cases b
  ·exact absurd rfl e2
  ·exact absurd rfl e1
 ·exact h
def Ws (ρ:ByteArray→Int):∀l m:List Fm,hA ρ (l++m)=(hA ρ l && hA ρ m)
 |[],m=>by simp[hA]
 |f::l,m=>by simp[hA,Ws ρ l m,Bool.and_assoc]
def Wv (ρ:ByteArray→Int):∀l m:List Fm,hO ρ (l++m)=(hO ρ l || hO ρ m)
 |[],m=>by simp[hO]
 |f::l,m=>by simp[hO,Wv ρ l m,Bool.or_assoc]
def P1 {Q:ByteArray→Prop}(ρ:ByteArray→Int):∀l acc:List Fm,(∀f∈acc,RN Q f)→(∀f∈l,RC Q f)→RC Q (fA 6 1 2 acc l)∧hF ρ (fA 6 1 2 acc l)=(hA ρ acc && hA ρ l)
 |[],[],_,_=>⟨.inl ⟨true,rfl⟩,by simp[fA,hF,hA]⟩
 |[],[k],ha,_=>⟨.inr (ha k aq),by simp[fA,hA]⟩
 |[],k1::k2::ks,ha,_=>⟨.inr (.inr (.inr ⟨.inl rfl,rfl,rfl,rfl,by simp,PM ha⟩)),by simp[fA,hF,hA]⟩
 |k::l,acc,ha,hl=>by
  have hk:=hl k aq;have hr:=fun f hf=>hl f (an _ hf);rw[fA]
  by_cases e1:k.op=2
  ·rw[if_pos e1,hk.two e1];exact⟨.inl ⟨false,rfl⟩,by simp[hA,xe]⟩
  ·rw[if_neg e1]
   by_cases e2:k.op=1
   ·rw[if_pos e2];obtain⟨a1,a2⟩:=P1 ρ l acc ha hr;exact⟨a1,by rw[a2,hk.one e2];simp[hA,xe]⟩
   ·rw[if_neg e2];obtain⟨a1,a2⟩:=P1 ρ l (acc++[k]) (fun f hf=>by
     rcases List.mem_append.1 hf with q |q
     ·exact ha f q
     ·simp only[List.mem_singleton]at q;rw[q];exact hk.rn e2 e1) hr
    exact⟨a1,by rw[a2,Ws];simp[hA,Bool.and_assoc]⟩
def P2 {Q:ByteArray→Prop}(ρ:ByteArray→Int):∀l acc:List Fm,(∀f∈acc,RN Q f)→(∀f∈l,RC Q f)→RC Q (fA 7 2 1 acc l)∧hF ρ (fA 7 2 1 acc l)=(hO ρ acc || hO ρ l)
 |[],[],_,_=>⟨.inl ⟨false,rfl⟩,by simp[fA,hF,hO]⟩
 |[],[k],ha,_=>⟨.inr (ha k aq),by simp[fA,hO]⟩
 |[],k1::k2::ks,ha,_=>⟨.inr (.inr (.inr ⟨.inr rfl,rfl,rfl,rfl,by simp,PM ha⟩)),by simp[fA,hF,hO]⟩
 |k::l,acc,ha,hl=>by
  have hk:=hl k aq;have hr:=fun f hf=>hl f (an _ hf);rw[fA]
  by_cases e1:k.op=1
  ·rw[if_pos e1,hk.one e1];exact⟨.inl ⟨true,rfl⟩,by simp[hO,xe]⟩
  ·rw[if_neg e1]
   by_cases e2:k.op=2
   ·rw[if_pos e2];obtain⟨a1,a2⟩:=P2 ρ l acc ha hr;exact⟨a1,by rw[a2,hk.two e2];simp[hO,xe]⟩
   ·rw[if_neg e2];obtain⟨a1,a2⟩:=P2 ρ l (acc++[k]) (fun f hf=>by
     rcases List.mem_append.1 hf with q |q
     ·exact ha f q
     ·simp only[List.mem_singleton]at q;rw[q];exact hk.rn e1 e2) hr
    exact⟨a1,by rw[a2,Wv];simp[hO,Bool.or_assoc]⟩
def mw (ρ:ByteArray→Int)(nm:ByteArray) (v:Int):ByteArray→Int:=fun n=>if n=nm then v else ρ n
def yQ:ByteArray→Prop:=fun _=>False
mutual
def JQ {Q Q':ByteArray→Prop}{nm:ByteArray}(v:Int)(ρ:ByteArray→Int)(hQ:∀n,Q n→n≠nm→Q' n):∀f:Fm,RW Q yQ f→RC Q' (bY nm v f)∧hF ρ (bY nm v f)=hF (mw ρ nm v) f
 |.mk o n c m kids,h=>by
  rcases h with⟨e,e1,e2,e3,e4⟩ |⟨e,q,e1,e2,e3⟩ |⟨_,q,_⟩ |⟨e,_,_,_,e4,q⟩ |⟨e,_,_,_,e4,q⟩
  ·subst e1;subst e2;subst e3;subst e4
   rcases e with e |e
   ·subst e;exact⟨.inl ⟨true,rfl⟩,by simp[bY,hF]⟩
   ·subst e;exact⟨.inl ⟨false,rfl⟩,by simp[bY,hF]⟩
  ·subst e;subst e3;rw[bY,if_pos rfl]
   by_cases en:n=nm
   ·rw[if_pos en];exact⟨.inl ⟨_,rfl⟩,by rw[xe];simp[hF,mw,en]⟩
   ·rw[if_neg en];exact⟨.inr (.inl ⟨rfl,hQ n q en,e1,e2,rfl⟩),by simp[hF,mw,en]⟩
  ·exact q.elim
  ·subst e;obtain⟨a1,a2,a3,a4⟩:=PX v ρ hQ kids q;rw[bY,if_neg (by omega),if_pos rfl]
   match hg:jD nm v kids with
   |[]=>rw[hg]at a4;simp at a4;omega
   |k::ks=>
    rw[hg]at a1 a2 a4;have mM:ks=[]:=by
     simp only[List.length_cons]at a4;exact au (by omega)
    subst mM;have hk:=a1 k aq;have hv:hF (mw ρ nm v) (.mk 5 n c m kids)=!hF ρ k:=by
     simp[hF,← a2,hA]
    simp only
    by_cases ek:k.op=1∨k.op=2
    ·rw[if_pos ek,hv];refine⟨.inl ⟨_,rfl⟩,?_⟩;rw[xe]
     rcases ek with ek |ek
     ·rw[hk.one ek];simp[xe,yhb]
     ·rw[hk.two ek];simp[xe,yhb]
    ·rw[if_neg ek,hv];refine⟨.inr (.inr (.inl ⟨rfl,rfl,rfl,rfl,rfl,hk.rn (fun z=>ek (.inl z)) (fun z=>ek (.inr z)),trivial⟩)),?_⟩;simp[hF,hA]
  ·obtain⟨a1,a2,a3,a4⟩:=PX v ρ hQ kids q
   rcases e with e |e
   ·subst e;rw[bY,if_neg (by omega),if_neg (by omega),if_pos rfl];obtain⟨b1,b2⟩:=P1 ρ (jD nm v kids) [] (by simp) a1;exact⟨b1,by rw[b2,a2];simp[hF,hA]⟩
   ·subst e;rw[bY,if_neg (by omega),if_neg (by omega),if_neg (by omega),if_pos rfl];obtain⟨b1,b2⟩:=P2 ρ (jD nm v kids) [] (by simp) a1;exact⟨b1,by rw[b2,a3];simp[hF,hO]⟩
def PX {Q Q':ByteArray→Prop}{nm:ByteArray}(v:Int)(ρ:ByteArray→Int)(hQ:∀n,Q n→n≠nm→Q' n):∀l:List Fm,ko Q yQ l→(∀g∈jD nm v l,RC Q' g)∧hA ρ (jD nm v l)=hA (mw ρ nm v) l∧hO ρ (jD nm v l)=hO (mw ρ nm v) l∧(jD nm v l).length=l.length
 |[],_=>by rw[jD];exact⟨by simp,rfl,rfl,rfl⟩
 |f::l,h=>by
  obtain⟨a1,a2⟩:=JQ v ρ hQ f h.1;obtain⟨b1,b2,b3,b4⟩:=PX v ρ hQ l h.2;rw[jD];refine⟨fun g hg=>?_,by simp[hA,a2,b2],by simp[hO,a2,b3],by simp[b4]⟩
  rcases List.mem_cons.1 hg with e |e
  ·rw[e];exact a1
  ·exact b1 g e
end
def yjw {m:Int}(h0:0≤m)(h1:m≤1000000):IntKind.i64.wrap (m+1)=m+1:=by
 unfold IntKind.wrap;simp[IntKind.signed,IntKind.bits];omega
def yi8 {s w c m:Int}(h:s≤w)(h1:¬(s<m∧m≤w))(h2:¬(s<m+1∧m+1≤w)):js s c m=js w c m:=by
 unfold js
 repeat' split
 all_goals (congr 1;apply propext;omega)
mutual
def Wg {Q:ByteArray→Prop}{nm:ByteArray}{s w:Int}(ρ:ByteArray→Int)(pW:s≤w):∀(f:Fm)(L:List Int),RW Q yQ f→(∀y∈gW nm L f,¬(s<y∧y≤w))→hF (mw ρ nm s) f=hF (mw ρ nm w) f
 |.mk o n c m kids,L,h,hy=>by
  rw[gW]at hy
  rcases h with⟨e,_⟩ |⟨e,q,e1,e2,e3⟩ |⟨_,q,_⟩ |⟨e,_,_,_,e4,q⟩ |⟨e,_,_,_,e4,q⟩
  ·rcases e with e |e <;> simp[hF,e]
  ·subst e;subst e3
   by_cases en:n=nm
   ·rw[if_pos ⟨rfl,en⟩,iT,yjw e1 e2]at hy;simp only[hF];simp[mw,en];exact yi8 pW (hy m (by simp)) (hy (m+1) (by simp))
   ·simp[hF,mw,en]
  ·exact q.elim
  ·subst e;rw[if_neg (by omega)]at hy;simp[hF,(PO ρ pW kids L q hy).1]
  ·rw[if_neg (by omega)]at hy;obtain⟨a1,a2⟩:=PO ρ pW kids L q hy
   rcases e with e |e <;> simp[hF,e,a1,a2]
def PO {Q:ByteArray→Prop}{nm:ByteArray}{s w:Int}(ρ:ByteArray→Int)(pW:s≤w):∀(l:List Fm)(L:List Int),ko Q yQ l→(∀y∈iT nm L l,¬(s<y∧y≤w))→hA (mw ρ nm s) l=hA (mw ρ nm w) l∧hO (mw ρ nm s) l=hO (mw ρ nm w) l
 |[],_,_,_=>⟨rfl,rfl⟩
 |f::l,L,h,hy=>by
  rw[iT]at hy;have h1:=Wg ρ pW f L h.1 fun y hm=>hy y (Qq _ _ _ _ hm);obtain⟨a1,a2⟩:=PO ρ pW l _ h.2 hy;simp[hA,hO,h1,a1,a2]
end
def yjt (ρ:ByteArray→Int)(nm:ByteArray):mw ρ nm (ρ nm)=ρ:=by
 funext n
 unfold mw;split
 ·rename_i e;rw[e]
 ·rfl
def Wf {L:List Int}(hs:L.Pairwise (·≤·)):∀m,m≤L.length→(Lib.compactUpTo L.toArray m).Pairwise (· < ·)∧(∀(j:Nat)(h:j<L.length),j<m→L[j]∈Lib.compactUpTo L.toArray m)∧∀y∈Lib.compactUpTo L.toArray m,∃(j:Nat)(h:j<L.length),j<m∧L[j]=y
 |0,_=>by
  refine⟨?_,fun j _ h=>by omega,?_⟩
  ·simp[Lib.compactUpTo]
  ·simp[Lib.compactUpTo]
 |m+1,hm=>by
  obtain⟨a1,a2,a3⟩:=Wf hs m (by omega);have hle:=List.pairwise_iff_getElem.1 hs;have hg:∀(j:Nat) (h:j<L.length),L.toArray[j]! = L[j]:=fun j h=>by
   rw[getElem!_pos _ j (by simpa using h)];simp
  rw[Lib.compactUpTo_succ]
  by_cases hk:Lib.keeps L.toArray m=true
  ·rw[if_pos hk];have dK:m=0∨∃h:m-1<L.length,L[m]≠L[m-1]:=by
    unfold Lib.keeps at hk;have qS:=of_decide_eq_true hk
    rcases qS with q |q
    ·exact .inl q
    ·rw[hg m (by omega),hg (m-1) (by omega)]at q;exact .inr ⟨by omega,q⟩
   rw[hg m (by omega)];refine⟨List.pairwise_append.2 ⟨a1,by simp,fun x hx y hy=>?_⟩,fun j h hj=>?_,fun y hy=>?_⟩
   ·simp only[List.mem_singleton]at hy;obtain⟨j,hj,fm,e⟩:=a3 x hx
    rcases dK with q |⟨q1,q2⟩
    ·omega
    ·have h1:L[m-1]≤L[m]:=hle (m-1) m (by omega) (by omega) (by omega);have h2:L[j]≤L[m-1]:=by
      by_cases e2:j=m-1
      ·subst e2;exact Int.le_refl _
      ·exact hle j (m-1) (by omega) (by omega) (by omega)
     rw[hy,← e];omega
   ·by_cases e:j=m
    ·subst e;simp
    ·exact List.mem_append_left _ (a2 j h (by omega))
   ·rcases List.mem_append.1 hy with q |q
    ·obtain⟨j,hj,fm,e⟩:=a3 y q;exact⟨j,hj,by omega,e⟩
    ·simp only[List.mem_singleton]at q;exact⟨m,by omega,by omega,q.symm⟩
  ·rw[if_neg hk,List.append_nil];have dK:0<m∧∃h:m-1<L.length,L[m]=L[m-1]:=by
    unfold Lib.keeps at hk;have qS:¬(m=0∨L.toArray[m]! ≠ L.toArray[m-1]!):=fun q=>hk (decide_eq_true q);rw[hg m (by omega),hg (m-1) (by omega)]at qS;refine⟨by omega,by omega,?_⟩
    by_cases e:L[m]=L[m-1]
    ·exact e
    ·exact absurd (.inr e) qS
   obtain⟨k1,k2,k3⟩:=dK;refine⟨a1,fun j h hj=>?_,fun y hy=>?_⟩
   ·by_cases e:j=m
    ·subst e;rw[k3];exact a2 (j-1) (by omega) (by omega)
    ·exact a2 j h (by omega)
   ·obtain⟨j,hj,fm,e⟩:=a3 y hy;exact⟨j,hj,by omega,e⟩
def We {L:List Int}(hs:L.Pairwise (·≤·)):(fZ L).Pairwise (· < ·)∧∀y,y∈fZ L↔y∈L:=by
 obtain⟨a1,a2,a3⟩:=Wf hs L.length (ae _);refine⟨a1,fun y=>⟨fun h=>?_,fun h=>?_⟩⟩
 ·obtain⟨j,hj,_,e⟩:=a3 y h;rw[← e];exact ah hj
 ·obtain⟨j,hj,e⟩:=List.getElem_of_mem h;rw[← e];exact a2 j hj hj
def WL (l:List Int):(dG l).Pairwise (·≤·):=by
 have:=List.pairwise_mergeSort (le:=fun x y:Int=>decide (x≤y)) (fun a b c h1 h2=>by simp at *;omega) (fun a b=>by simp;omega) l;exact this.imp fun h=>by simpa using h
def WJ {l:List Int}{y:Int}:y∈dG l↔y∈l:=by unfold dG;exact List.mem_mergeSort
def WQ (f:Fm)(x:Fc):(fQ f x).Pairwise (· < ·)∧∀y,y∈fQ f x↔y∈gW x.name [x.lo] f∧x.lo≤y∧y≤x.hi:=by
 obtain⟨a1,a2⟩:=We ((WL (gW x.name [x.lo] f)).filter fun y=>!iy x y);refine⟨a1,fun y=>?_⟩;unfold fQ;rw[a2,List.mem_filter,WJ];simp[iy]
def yj6 (p q:Nd)(d:List Fc) (i lo:Int):(ll p q d i lo).Pairwise (· < ·)∧∀y,y∈ll p q d i lo↔y=lo∨(bq p d=i∧y∈p.cuts)∨(bq q d=i∧y∈q.cuts):=by
 obtain⟨a1,a2⟩:=We (WL (([lo]++(if bq p d=i then p.cuts else []))++(if bq q d=i then q.cuts else [])));refine⟨a1,fun y=>?_⟩;unfold ll;rw[a2,WJ]
 by_cases h1:bq p d=i <;> by_cases h2:bq q d=i <;> simp[h1,h2]
def rV (x:Int):List Int→List Int→Int→Int
 |s::ss,y::ys,w=>if w<s then x else rV y ss ys w
 |_,_,_=>x
def P6 {P:Int→Int→Prop}{w:Int}:∀(st ks:List Int) (x s0:Int),(s0::st).Pairwise (· < ·)→s0≤w→P s0 x→st.length=ks.length→(∀p∈st.zip ks,P p.1 p.2)→∃s,s∈s0::st∧s≤w∧(∀y∈s0::st,y≤w→y≤s)∧P s (rV x st ks w)
 |[],[],x,s0,_,h1,h2,_,_=>⟨s0,by simp,h1,by simp,h2⟩
 |[],_::_,_,_,_,_,_,h,_=>by simp at h
 |_::_,[],_,_,_,_,_,h,_=>by simp at h
 |s::st,y::ks,x,s0,hs,h1,h2,hl,hz=>by
  obtain⟨p1,p2⟩:=List.pairwise_cons.1 hs;obtain⟨p3,p4⟩:=List.pairwise_cons.1 p2;rw[rV]
  by_cases e:w<s
  ·rw[if_pos e];refine⟨s0,by simp,h1,fun z Dk hw=>?_,h2⟩
   rcases List.mem_cons.1 Dk with q |q
   ·omega
   ·rcases List.mem_cons.1 q with q |q
    ·omega
    ·have:=p3 z q;omega
  ·rw[if_neg e];obtain⟨r,a1,a2,a3,a4⟩:=P6 (w:=w) (P:=P) st ks y s p2 (by omega) (hz (s,y) (by simp)) (by simpa using hl) fun p hp=>hz p (by simp only[List.zip_cons_cons];exact an _ hp);refine⟨r,an _ a1,a2,fun z Dk hw=>?_,a4⟩
   rcases List.mem_cons.1 Dk with q |q
   ·have:=p1 s aq;have:=a3 s aq (by omega);omega
   ·exact a3 z q hw
def xf (n:Nd) (w:Int):Int:=n.kids.getD (kl n w).toNat 0
def DC {α:Type}{p:α→Bool}:∀{l:List α},(∀x∈l,p x=false)→bj p l=-1
 |[],_=>rfl
 |y::l,h=>by
  have h1:=h y aq;have h2:=DC fun x hx=>h x (an _ hx);unfold bj;rw[h1,h2];rfl
def PZ {α:Type}{p:α→Bool}{s:α}{t:List α}(hs:p s=true):∀{c:List α},(∀x∈c,p x=false)→bj p (c++s::t)=(c.length:Int)
 |[],_=>by
  show bj p (s::t)=_;unfold bj;rw[if_pos hs];rfl
 |y::c,h=>by
  have h1:=h y aq;have h2:=PZ (t:=t) hs fun x hx=>h x (an _ hx);show bj p (y::(c++s::t))=_;unfold bj;rw[h1,if_neg (by simp),h2,if_neg (by omega)];simp
def Qa {i w:Int}{c k:List Int}{lf:Bool}(hc:∀a∈c,a≤w)(hk:k.length=c.length+1):xf ⟨i,c,k,lf⟩ w=k.getD c.length 0:=by
 unfold xf kl;simp only;rw[DC fun x hx=>by have:=hc x hx;simp;omega,if_pos (by omega)]
 congr 1
 omega
def yjo {i w s:Int}{c t k u:List Int}{lf:Bool}(hc:∀a∈c,a≤w)(hs:w<s)(hk:k.length=c.length+1):xf ⟨i,c++s::t,k++u,lf⟩ w=k.getD c.length 0:=by
 unfold xf kl;simp only;rw[PZ (p:=fun c=>decide (w<c)) (by simpa using hs) fun x hx=>by have:=hc x hx;simp;omega,if_neg (by omega),Int.toNat_natCast,ak,List.getElem?_append_left (by omega),ak]
def JU:∀(st ys:List Int) (x:Int)(c k:List Int),∃t u,(bN x c k st ys).2.1=c++t∧(bN x c k st ys).2.2=k++u∧t.length=u.length
 |[],ys,x,c,k=>⟨[],[],by simp[bN],by simp[bN],rfl⟩
 |_::_,[],x,c,k=>⟨[],[],by simp[bN],by simp[bN],rfl⟩
 |s::st,y::ys,x,c,k=>by
  by_cases e:y=x
  ·rw[Cr e];exact JU st ys x c k
  ·rw[EF e];obtain⟨t,u,a1,a2,a3⟩:=JU st ys y (c++[s]) (k++[y]);exact⟨s::t,y::u,by rw[a1];simp,by rw[a2];simp,by simp[a3]⟩
def yje {x w:Int}:∀{st ks:List Int},(∀a∈st,w<a)→rV x st ks w=x
 |[],ks,_=>by cases ks <;> rfl
 |_::_,[],_=>rfl
 |s::st,y::ks,h=>by rw[rV,if_pos (h s aq)]
def P9 (i:Int)(lf:Bool) (w:Int):∀(st ys:List Int) (x:Int)(c k:List Int),st.Pairwise (· < ·)→(∀a∈c,a≤w)→k.length=c.length+1→k.getD c.length 0=x→xf ⟨i,(bN x c k st ys).2.1,(bN x c k st ys).2.2,lf⟩ w=rV x st ys w
 |[],ys,x,c,k,_,hc,hk,hx=>by
  have e1:bN x c k [] ys=(x,c,k):=by cases ys <;> rfl
  have e2:rV x [] ys w=x:=by cases ys <;> rfl
  rw[e1,e2,← hx];exact Qa hc hk
 |_::_,[],x,c,k,_,hc,hk,hx=>by
  rw[Qx];show xf ⟨i,c,k,lf⟩ w=x;rw[← hx];exact Qa hc hk
 |s::st,y::ys,x,c,k,hp,hc,hk,hx=>by
  obtain⟨p1,p2⟩:=List.pairwise_cons.1 hp;rw[rV]
  by_cases e:y=x
  ·rw[Cr e,P9 i lf w st ys x c k p2 hc hk hx]
   by_cases hw:w<s
   ·rw[if_pos hw];exact yje fun a ha=>by have:=p1 a ha;omega
   ·rw[if_neg hw,e]
  ·rw[EF e]
   by_cases hw:w<s
   ·rw[if_pos hw];obtain⟨t,u,a1,a2,_⟩:=JU st ys y (c++[s]) (k++[y]);rw[a1,a2,List.append_assoc,List.append_assoc];have:=yjo (i:=i) (lf:=lf) (t:=t) (u:=[y]++u) hc hw hk;rw[← hx];exact this
   ·rw[if_neg hw];refine P9 i lf w st ys y (c++[s]) (k++[y]) p2 (fun a ha=>?_) (by simp[hk]) ?_
    ·rcases List.mem_append.1 ha with q |q
     ·exact hc a q
     ·simp only[List.mem_singleton]at q;omega
    ·rw[ak,List.getElem?_append_right (by simp;omega)];simp[hk]
def Hf (k:List Int):Prop:=∀j,j+1<k.length→k.getD j 0≠k.getD (j+1) 0
def P8:∀(st ys:List Int) (x:Int)(c k:List Int),(c++st).Pairwise (· < ·)→Hf k→0<k.length→k.getD (k.length-1) 0=x→(bN x c k st ys).2.1.Pairwise (· < ·)∧(∀a∈(bN x c k st ys).2.1,a∈c++st)∧Hf (bN x c k st ys).2.2
 |[],ys,x,c,k,hp,ha,_,_=>by
  have e1:bN x c k [] ys=(x,c,k):=by cases ys <;> rfl
  rw[e1];exact⟨by simpa using hp,by simp,ha⟩
 |s::st,[],x,c,k,hp,ha,_,_=>by
  rw[Qx];exact⟨(List.pairwise_append.1 hp).1,fun a h=>List.mem_append_left _ h,ha⟩
 |s::st,y::ys,x,c,k,hp,ha,h0,hx=>by
  by_cases e:y=x
  ·rw[Cr e];obtain⟨a1,a2,a3⟩:=P8 st ys x c k (hp.sublist (List.Sublist.append_left (List.sublist_cons_self _ _) _)) ha h0 hx;refine⟨a1,fun a h=>?_,a3⟩
   rcases List.mem_append.1 (a2 a h) with q |q
   ·exact List.mem_append_left _ q
   ·exact List.mem_append_right _ (an _ q)
  ·rw[EF e];have ND:Hf (k++[y]):=fun j hj=>by
    simp only[List.length_append,List.length_cons,List.length_nil]at hj
    by_cases fm:j+1<k.length
    ·have:=ha j fm;simp only[ak]at this ⊢;rw[List.getElem?_append_left (by omega),List.getElem?_append_left fm];exact this
    ·have yF:j=k.length-1:=(by omega);have e2:(k++[y]).getD (j+1) 0=y:=by
      rw[ak,List.getElem?_append_right (by omega),show j+1-k.length=0 by omega];rfl
     have e3:(k++[y]).getD j 0=x:=by
      rw[← hx,ak,List.getElem?_append_left (by omega),ak,yF]
     rw[e2,e3];exact fun q=>e q.symm
   obtain⟨a1,a2,a3⟩:=P8 st ys y (c++[s]) (k++[y]) (by simpa using hp) ND (by simp) (by simp[ak]);exact⟨a1,by simpa using a2,a3⟩
inductive cP (g:List Nd) (v:Int→Int):Int→Bool→Prop
 |leaf {i:Int} {n:Nd}:0≤i→g[i.toNat]?=some n→n.kids=[]→cP g v i n.leaf
 |node {i j:Int} {n:Nd} {b:Bool}:0≤i→g[i.toNat]?=some n→n.kids≠[]→n.kids[(kl n (v n.fact)).toNat]?=some j→cP g v j b→cP g v i b
def yjn {n:Nd}(w:Int)(h:n.kids.length=n.cuts.length+1):n.kids[(kl n w).toNat]?=some (xf n w):=by
 obtain⟨k,h1,h2⟩:=Mu (v:=w) h;unfold xf;rw[h1,Int.toNat_natCast,ak,aa h2];rfl
def cP.det {g:List Nd}{v:Int→Int}{i:Int}{b c:Bool}(h:cP g v i b):cP g v i c→b=c:=by
 induction h with
 |leaf h1 h2 h3=>
  intro q;cases q with
  |leaf _ q2 _=>rw[h2]at q2;cases q2;rfl
  |node _ q2 q3 _ _=>rw[h2]at q2;cases q2;exact absurd h3 q3
 |node h1 h2 h3 h4 _ ih=>
  intro q;cases q with
  |leaf _ q2 q3=>rw[h2]at q2;cases q2;exact absurd q3 h3
  |node _ q2 _ q4 q5=>rw[h2]at q2;cases q2;rw[h4]at q4;cases q4;exact ih q5
def jw (L K:List Nd):Prop:=∀(j:Nat)(n:Nd),L[j]?=some n→K[j]?=some n
def jw.refl (L:List Nd):jw L L:=fun _ _ h=>h
def jw.trans {L K M:List Nd}(h:jw L K)(k:jw K M):jw L M:=fun j n e=>k j n (h j n e)
def cP.mono {g k:List Nd}{v:Int→Int}{i:Int}{b:Bool}(hp:jw g k)(h:cP g v i b):cP k v i b:=by
 induction h with
 |leaf h1 h2 h3=>exact .leaf h1 (hp _ _ h2) h3
 |node h1 h2 h3 h4 _ ih=>exact .node h1 (hp _ _ h2) h3 h4 ih
def Wa (L:List Nd)(n:Nd):jw L (jB L n):=by
 intro j m h;unfold jB;split
 ·exact h
 ·have hj:j<L.length:=by
   by_cases q:j<L.length
   ·exact q
   ·rw[List.getElem?_eq_none (by omega)]at h;cases h
  rw[List.getElem?_append_left hj];exact h
def yix (L:List Nd)(n:Nd):(jB L n)[mW L n]?=some n:=by
 unfold jB mW
 by_cases hm:bV n∈L.map bV
 ·rw[if_pos hm];have hl:(L.map bV).findIdx (fun k=>decide (k=bV n))<(L.map bV).length:=List.findIdx_lt_length_of_exists ⟨_,hm,by simp⟩;have he:=List.findIdx_getElem (w:=hl);have iO:(L.map bV).findIdx (fun k=>decide (k=bV n))<L.length:=by simpa using hl
  rw[List.getElem_map]at he;rw[aa iO,WB (of_decide_eq_true he)]
 ·rw[if_neg hm];have hl:(L.map bV).findIdx (fun k=>decide (k=bV n))=(L.map bV).length:=List.findIdx_eq_length_of_false fun x hx=>by
   simp only[decide_eq_false_iff_not];exact fun e=>hm (e ▸ hx)
  rw[hl,List.length_map,List.getElem?_append_right (ae _)];simp
def DB (n:Nd)(S:GS):(dp n S).2.L[(dp n S).1.toNat]?=some n∧0≤(dp n S).1∧jw S.L (dp n S).2.L:=by
 refine⟨?_,?_,Wa _ _⟩
 ·simp only[dp,Int.toNat_natCast];exact yix _ _
 ·simp only[dp];omega
def WC (b:Bool)(S:GS)(v:Int→Int):cP (dp (cz b) S).2.L v (dp (cz b) S).1 b:=by
 obtain⟨h1,h2,_⟩:=DB (cz b) S;exact cP.leaf (n:=cz b) h2 h1 rfl
def P0 (i:Nat) (s0 k0:Int)(st ks:List Int)(S:GS)(hp:(s0::st).Pairwise (· < ·)):jw S.L (eT i (s0::st) (k0::ks) S).2.L∧((eT i (s0::st) (k0::ks) S=(k0,S)∧∀w,rV k0 st ks w=k0)∨∃n,eT i (s0::st) (k0::ks) S=dp n S∧n.fact=(i:Int)∧n.leaf=false∧n.kids≠[]∧(∀w,xf n w=rV k0 st ks w)∧n.cuts≠[]∧n.kids.length=n.cuts.length+1∧n.cuts.Pairwise (· < ·)∧(∀a∈n.cuts,a∈st)∧Hf n.kids∧∀x∈n.kids,x∈k0::ks):=by
 have p2:=(List.pairwise_cons.1 hp).2;have hh:jr (k0::ks)=k0:=rfl;have hr:bN k0 [] [k0] (s0::st) (k0::ks)=bN k0 [] [k0] st ks:=Cr rfl;have eU:=fun w=>P9 (i:Int) false w st ks k0 [] [k0] p2 (by simp) rfl rfl;obtain⟨t,u,a1,a2,a3⟩:=JU st ks k0 [] [k0];obtain⟨b1,b2,b3⟩:=P8 st ks k0 [] [k0] (by simpa using p2) (fun j hj=>by simp at hj) (by simp) rfl;have bZ:∀x∈(bN k0 [] [k0] st ks).2.2,x∈k0::ks:=(Mq (fun _=>True) (fun x=>x∈k0::ks) st ks k0 [] [k0] (by simp) (by simp) (by simp) (fun a ha=>an _ ha)).2.1;unfold eT;simp only[hh,hr]
 by_cases e:(bN k0 [] [k0] st ks).2.2.length=1
 ·rw[if_pos e];refine⟨.refl _,.inl ⟨rfl,fun w=>?_⟩⟩;rw[← eU w];rw[a2]at e;have hu:u=[]:=au (by simpa using e);have ht:t=[]:=au (by rw[a3,hu];rfl);rw[a1,a2,hu,ht];exact Qa (by simp) rfl
 ·rw[if_neg e];refine⟨Wa _ _,.inr ⟨_,rfl,rfl,rfl,?_,eU,?_,?_,b1,by simpa using b2,b3,bZ⟩⟩
  ·simp only;rw[a2];simp
  ·simp only;rw[a1];intro q;have:t=[]:=by simpa using q
   rw[this]at a3;rw[a2]at e;simp at e a3;exact e (au a3.symm)
  ·simp only;rw[a1,a2];simp[a3]
def Wy {i:Nat}{s0 k0:Int}{st ks:List Int}{S:GS}{v:Int→Int}{b:Bool}(hp:(s0::st).Pairwise (· < ·))(h:cP S.L v (rV k0 st ks (v i)) b):cP (eT i (s0::st) (k0::ks) S).2.L v (eT i (s0::st) (k0::ks) S).1 b:=by
 obtain⟨h1,⟨e,h2⟩ |⟨n,e,h2,_,h3,h4,_,h5,_⟩⟩:=P0 i s0 k0 st ks S hp
 ·rw[h2]at h;rw[e];exact h
 ·rw[e];obtain⟨a1,a2,a3⟩:=DB n S;refine cP.node a2 a1 h3 (yjn _ h5) ?_;rw[h2,h4];exact h.mono a3
def yT (d:List Fc)(ρ:ByteArray→Int):Prop:=∀x∈d,x.lo≤ρ x.name∧ρ x.name≤x.hi
def vD (d:List Fc)(ρ:ByteArray→Int):Int→Int:=fun i=>ρ (d.getD i.toNat ⟨.empty,0,0,0⟩).name
def QD (d:List Fc) (i:Nat):ByteArray→Prop:=fun n=>n∈(d.drop i).map Fc.name
def tZ (d:List Fc)(L:List Nd) (r:Int)(f:Fm):Prop:=∀ρ,yT d ρ→cP L (vD d ρ) r (hF ρ f)
def tZ.mono {d:List Fc}{L K:List Nd}{r:Int}{f:Fm}(hp:jw L K)(h:tZ d L r f):tZ d K r f:=fun ρ hr=>(h ρ hr).mono hp
def uc (d:List Fc)(S:GS):Prop:=∀p∈S.D,∃i f,p.1=sJ i f∧we f∧tZ d S.L p.2 f
def Wq {t:ByteArray}{v:Int}:∀{D:List (ByteArray×Int)},k9 t D=some v→(t,v)∈D
 |[],h=>by cases h
 |(k,w)::l,h=>by
  rw[k9]at h
  by_cases e:t=k
  ·rw[if_pos e]at h;cases h;rw[e];exact aq
  ·rw[if_neg e]at h;exact an _ (Wq h)
def WH {t:ByteArray}{v:Int}:∀{D:List (ByteArray×Int)}{p:ByteArray×Int},p∈mE t v D→p∈D∨p=(t,v)
 |[],p,h=>by
  simp[mE]at h;exact .inr h
 |(k,w)::l,p,h=>by
  rw[mE]at h
  by_cases e:t=k
  ·rw[if_pos e]at h
   rcases List.mem_cons.1 h with q |q
   ·exact .inr (by rw[q,e])
   ·exact .inl (an _ q)
  ·rw[if_neg e]at h
   rcases List.mem_cons.1 h with q |q
   ·exact .inl (by rw[q];exact aq)
   ·rcases WH q with q |q
    ·exact .inl (an _ q)
    ·exact .inr q
def yja (n:Nd)(S:GS):(dp n S).2.full=S.full:=rfl
def Wx (i:Nat)(st ks:List Int)(S:GS):(eT i st ks S).2.full=S.full∧(eT i st ks S).2.D=S.D:=by
 unfold eT;simp only;split
 ·exact⟨rfl,rfl⟩
 ·exact⟨rfl,rfl⟩
def yip (d:List Fc) (k:Nat)(f:Fm)(S:GS)(h:S.full=true):(cr d k f S).2.full=true:=by
 cases k with
 |zero=>
  rw[cr];split
  ·exact h
  ·simp[yja,kI,h]
 |succ k=>
  rw[cr];split
  ·exact h
  ·rw[if_pos (by simp[kI,h])];rfl
def Wm {g:Int→GS→Int×GS}(hg:∀v S,S.full=true→(g v S).2.full=true):∀(l:List Int)(S:GS),S.full=true→(ez g l S).2.full=true
 |[],S,h=>h
 |v::l,S,h=>Wm hg l _ (hg v S h)
def uc.up {d:List Fc}{S:GS}{L:List Nd}{b:Bool}(h:uc d S)(hp:jw S.L L):uc d ⟨L,S.D,b⟩:=by
 intro p hm;obtain⟨i,f,e1,e2,e3⟩:=h p hm;exact⟨i,f,e1,e2,e3.mono hp⟩
def Wn {d:List Fc}{g:Int→GS→Int×GS}{F:Int→Fm}(hm:∀v S,S.full=true→(g v S).2.full=true)(hg:∀v S,uc d S→(g v S).2.full=false→uc d (g v S).2∧jw S.L (g v S).2.L∧tZ d (g v S).2.L (g v S).1 (F v)):∀(l:List Int)(S:GS),uc d S→(ez g l S).2.full=false→uc d (ez g l S).2∧jw S.L (ez g l S).2.L∧(ez g l S).1.length=l.length∧∀p∈l.zip (ez g l S).1,tZ d (ez g l S).2.L p.2 (F p.1)
 |[],S,h,_=>⟨h,.refl _,rfl,by simp⟩
 |v::l,S,h,hf=>by
  have uS:(g v S).2.full=false:=by
   cases q:(g v S).2.full with
   |false=>rfl
   |true=>
    have:=Wm hm l _ q;simp only[ez]at hf;rw[this]at hf;cases hf
  obtain⟨a1,a2,a3⟩:=hg v S h uS;obtain⟨b1,b2,b3,b4⟩:=Wn hm hg l (g v S).2 a1 hf;refine⟨b1,a2.trans b2,by simp[ez,b3],fun p hp=>?_⟩;simp only[ez,List.zip_cons_cons]at hp ⊢
  rcases List.mem_cons.1 hp with q |q
  ·rw[q];exact a3.mono b2
  ·exact b4 p q
def yhx {d:List Fc}(hn:(d.map Fc.name).Nodup){i:Nat}(hi:i<d.length):∀n,QD d i n→n≠(d.getD i ⟨.empty,0,0,0⟩).name→QD d (i+1) n:=by
 intro n h aT;unfold QD at h ⊢;rw[aj hi,List.map_cons]at h
 rcases List.mem_cons.1 h with q |q
 ·rw[ak,aa hi]at aT;exact absurd q aT
 ·exact q
def yjf {d:List Fc}{i:Nat}(hi:i<d.length)(eE:∀x∈d,x.lo≤x.hi){f:Fm}{L:List Nd}{s0 k0:Int}{st ks:List Int}{Q:ByteArray→Prop}(hf:RW Q yQ f)(aU:fQ f (d.getD i ⟨.empty,0,0,0⟩)=s0::st)(hl:(s0::st).length=(k0::ks).length)(hz:∀p∈(s0::st).zip (k0::ks),tZ d L p.2 (bY (d.getD i ⟨.empty,0,0,0⟩).name p.1 f))(ρ:ByteArray→Int)(hr:yT d ρ):cP L (vD d ρ) (rV k0 st ks (vD d ρ i)) (hF ρ f):=by
 obtain⟨x,hx⟩:∃x,x=d.getD i ⟨.empty,0,0,0⟩:=⟨_,rfl⟩;have Bc:x∈d:=by
  rw[hx,ak,aa hi];exact ah hi
 obtain⟨r1,r2⟩:=hr x Bc;have hv:vD d ρ i=ρ x.name:=by rw[hx];rfl
 rw[← hx]at aU hz;obtain⟨o1,o2⟩:=WQ f x;rw[aU]at o1 o2;have h0:s0≤ρ x.name:=by
  have tD:x.lo∈s0::st:=(o2 x.lo).2 ⟨Qm _ _ _ _ (by simp),by omega,by omega⟩
  rcases List.mem_cons.1 tD with q |q
  ·omega
  ·have:=(List.pairwise_cons.1 o1).1 _ q;omega
 rw[hv];obtain⟨s,a1,a2,a3,a4⟩:=P6 (P:=fun s k=>tZ d L k (bY x.name s f)) (w:=ρ x.name) st ks k0 s0 o1 h0 (hz (s0,k0) (by simp)) (by simpa using hl) fun p hp=>hz p (by simp only[List.zip_cons_cons];exact an _ hp);have e1:=(JQ (Q':=fun _=>True) (nm:=x.name) s ρ (fun _ _ _=>trivial) f hf).2;have e2:hF (mw ρ x.name s) f=hF (mw ρ x.name (ρ x.name)) f:=Wg ρ a2 f [x.lo] hf fun y hy q=>by
  have pV:=(o2 s).1 a1;have:=a3 y ((o2 y).2 ⟨hy,by omega,by omega⟩) q.2;omega
 rw[yjt]at e2;have:=a4 ρ hr;rw[e1,e2]at this;exact this
def yiq {d:List Fc}(hn:(d.map Fc.name).Nodup)(hN:∀x∈d,pC x.name)(eE:∀x∈d,x.lo≤x.hi):∀(k:Nat)(f:Fm)(S:GS),k≤d.length→RC (QD d (d.length-k)) f→uc d S→(cr d k f S).2.full=false→uc d (cr d k f S).2∧jw S.L (cr d k f S).2.L∧tZ d (cr d k f S).2.L (cr d k f S).1 f:=by
 have eZ:∀{Q:ByteArray→Prop} {f:Fm},RC Q f→f.op=1∨f.op=2→f=lj (decide (f.op=1)):=fun {Q f} h e=>by
  rcases e with e |e
  ·rw[h.one e];rfl
  ·rw[h.two e];rfl
 have fp:∀{Q:ByteArray→Prop} {f:Fm} {S:GS},RC Q f→f.op=1∨f.op=2→uc d S→uc d (dp (cz (decide (f.op=1))) S).2∧jw S.L (dp (cz (decide (f.op=1))) S).2.L∧tZ d (dp (cz (decide (f.op=1))) S).2.L (dp (cz (decide (f.op=1))) S).1 f:=fun {Q f S} h e hS=>by
  have hp:=(DB (cz (decide (f.op=1))) S).2.2;refine⟨hS.up (b:=S.full) hp,hp,fun ρ _=>?_⟩;have:=WC (decide (f.op=1)) S (vD d ρ);have e2:hF ρ f=decide (f.op=1):=by
   have h2:=eZ h e;generalize decide (f.op=1)=b at h2;rw[h2,xe]
  rw[e2];exact this
 have hQ:∀i n,QD d i n→Bw n:=fun i n h=>by
  obtain⟨x,hx,e⟩:=List.mem_map.1 h;exact .inr (e ▸ hN x (List.mem_of_mem_drop hx))
 intro k
 induction k with
 |zero=>
  intro f S _ hf hS bS;rw[cr]at bS ⊢
  by_cases e:f.op=1∨f.op=2
  ·rw[if_pos e];exact fp hf e hS
  ·obtain⟨n,hq⟩:=(hf.rn (fun q=>e (.inl q)) (fun q=>e (.inr q))).has;unfold QD at hq;rw[al (by omega)]at hq;cases hq
 |succ k ih=>
  intro f S hk hf hS bS;rw[cr]at bS ⊢
  by_cases e:f.op=1∨f.op=2
  ·rw[if_pos e];exact fp hf e hS
  ·rw[if_neg e]at bS ⊢
   by_cases e2:kI S=true
   ·rw[if_pos e2]at bS;cases bS
   ·rw[if_neg e2]at bS ⊢;have kN:=hS.up (b:=false) (jw.refl S.L);cases hg:k9 (sJ (d.length-(k+1)) f) S.D with
    |some v=>
     simp only;refine⟨kN,.refl _,?_⟩;obtain⟨i,f2,e3,e4,e5⟩:=hS _ (Wq hg);rw[(yjp (hf.sp (hQ _)) e4 e3).2];exact e5
    |none=>
     rw[hg]at bS;simp only at bS ⊢;have jW:d.length-(k+1)<d.length:=by omega
     have wC:d.length-(k+1)+1=d.length-k:=(by omega);rw[(Wx _ _ _ _).1]at bS;obtain⟨b1,b2,b3,b4⟩:=Wn (d:=d) (g:=fun v S=>cr d k (bY (d.getD (d.length-(k+1)) ⟨.empty,0,0,0⟩).name v f) S) (F:=fun v=>bY (d.getD (d.length-(k+1)) ⟨.empty,0,0,0⟩).name v f) (fun v S h=>yip d k _ S h) (fun v S h1 h2=>ih _ S (by omega) (JQ v (fun _=>0) (fun n q1 q2=>wC ▸ yhx hn jW n q1 q2) f hf.rw).1 h1 h2) (fQ f (d.getD (d.length-(k+1)) ⟨.empty,0,0,0⟩)) { S with full:=false } kN bS;clear bS ih;generalize hr:ez (fun v S=>cr d k (bY (d.getD (d.length-(k+1)) ⟨.empty,0,0,0⟩).name v f) S) (fQ f (d.getD (d.length-(k+1)) ⟨.empty,0,0,0⟩)) { S with full:=false }=r at *;clear hr;obtain⟨ks,T⟩:=r;simp only at b1 b2 b3 b4 ⊢;have Bc:(d.getD (d.length-(k+1)) ⟨.empty,0,0,0⟩)∈d:=by
      rw[ak,aa jW];exact ah jW
     match aU:fQ f (d.getD (d.length-(k+1)) ⟨.empty,0,0,0⟩),ks with
     |[],_=>exact absurd aU (Qp f _ (eE _ Bc))
     |_::_,[]=>rw[aU]at b3;simp at b3
     |s0::st,k0::ks=>
      have o1:=(WQ f (d.getD (d.length-(k+1)) ⟨.empty,0,0,0⟩)).1;rw[aU]at b3 b4 o1;have A3:=yjf (L:=T.L) jW eE (hf.rw (T:=yQ)) aU b3.symm b4;have ct:tZ d (eT (d.length-(k+1)) (s0::st) (k0::ks) T).2.L (eT (d.length-(k+1)) (s0::st) (k0::ks) T).1 f:=fun ρ hr=>Wy o1 (A3 ρ hr);have gF:=(P0 (d.length-(k+1)) s0 k0 st ks T o1).1;have hD:=(Wx (d.length-(k+1)) (s0::st) (k0::ks) T).2;refine⟨fun p hp=>?_,b2.trans gF,ct⟩;simp only at hp
      rcases WH hp with q |q
      ·rw[hD]at q;obtain⟨i,f2,e3,e4,e5⟩:=b1 p q;exact⟨i,f2,e3,e4,e5.mono gF⟩
      ·rw[q];exact⟨_,f,rfl,hf.sp (hQ _),ct⟩
def ph (L:List Nd) (i:Int):List Int:=(L.getD i.toNat ⟨0,[],[],false⟩).kids
def yiz {L:List Nd}(hw:WK L){i:Int}(hi:0≤i∧i<(L.length:Int)):∀x∈ph L i,0≤x∧x<(L.length:Int):=by
 have hl:i.toNat<L.length:=by omega
 unfold ph;rw[ak,aa hl];exact hw _ (ah hl)
def WV (L:List Nd):∀(f:Nat)(o:List Int) (i:Int),∃t,cX L f o i=o++t
 |0,o,i=>⟨[],by simp[cX]⟩
 |f+1,o,i=>by
  rw[cX];split
  ·exact⟨[],by simp⟩
  ·have key:∀(ks o1:List Int),∃t,ks.foldl (cX L f) o1=o1++t:=by
    intro ks
    induction ks with
    |nil=>intro o1;exact⟨[],by simp⟩
    |cons k ks ih=>
     intro o1;obtain⟨t,e⟩:=WV L f o1 k;obtain⟨u,e2⟩:=ih (cX L f o1 k);exact⟨t++u,by rw[List.foldl_cons,e2,e,List.append_assoc]⟩
   obtain⟨t,e⟩:=key (L.getD i.toNat ⟨0,[],[],false⟩).kids (o++[i]);exact⟨i::t,by rw[e];simp⟩
def JP (L:List Nd) (f:Nat):∀(ks o:List Int),∃t,ks.foldl (cX L f) o=o++t
 |[],o=>⟨[],by simp⟩
 |k::ks,o=>by
  obtain⟨t,e⟩:=WV L f o k;obtain⟨u,e2⟩:=JP L f ks (cX L f o k);exact⟨t++u,by rw[List.foldl_cons,e2,e,List.append_assoc]⟩
def WU {L:List Nd}(hw:WK L):∀(f:Nat)(o:List Int) (i:Int),kL L o→0≤i∧i<(L.length:Int)→L.length<f+o.length→i∈cX L f o i∧∀x∈cX L f o i,¬x∈o→∀y∈ph L x,y∈cX L f o i
 |0,o,i,h,hi,hf=>by have:=h.len;omega
 |f+1,o,i,h,hi,hf=>by
  rw[cX]
  by_cases hm:i∈o
  ·rw[if_pos hm];exact⟨hm,fun x hx hn=>absurd hx hn⟩
  ·rw[if_neg hm];have h1:=h.snoc hm hi;have key:∀(ks:List Int),(∀x∈ks,0≤x∧x<(L.length:Int))→∀o1,kL L o1→L.length<f+o1.length→(∀k∈ks,k∈ks.foldl (cX L f) o1)∧∀x∈ks.foldl (cX L f) o1,¬x∈o1→∀y∈ph L x,y∈ks.foldl (cX L f) o1:=by
    intro ks
    induction ks with
    |nil=>intro _ o1 _ _;exact⟨by simp,fun x hx hn=>absurd hx hn⟩
    |cons k ks ih=>
     intro hk o1 h1 hl;have eY:=hk k aq;obtain⟨a1,a2⟩:=WU hw f o1 k h1 eY hl;obtain⟨b1,b2⟩:=vX hw f o1 k h1 eY;obtain⟨c1,c2⟩:=ih (fun x hx=>hk x (an _ hx)) _ b1 (by omega);obtain⟨t,e⟩:=JP L f ks (cX L f o1 k);have nL:∀x∈cX L f o1 k,x∈ks.foldl (cX L f) (cX L f o1 k):=fun x hx=>by rw[e];exact List.mem_append_left _ hx
     rw[List.foldl_cons];refine⟨fun z hz=>?_,fun x hx hn y hy=>?_⟩
     ·rcases List.mem_cons.1 hz with q |q
      ·rw[q];exact nL _ a1
      ·exact c1 z q
     ·by_cases Di:x∈cX L f o1 k
      ·exact nL _ (a2 x Di hn y hy)
      ·exact c2 x hx Di y hy
   have jI:(o++[i]).length=o.length+1:=(by simp);obtain⟨a1,a2⟩:=key (ph L i) (yiz hw hi) (o++[i]) h1 (by omega);obtain⟨t,e⟩:=JP L f (ph L i) (o++[i]);have F4:(L.getD i.toNat ⟨0,[],[],false⟩).kids.foldl (cX L f) (o++[i])=(ph L i).foldl (cX L f) (o++[i]):=rfl;rw[F4];refine⟨by rw[e];simp,fun x hx hn y hy=>?_⟩
   by_cases GU:x=i
   ·subst GU;exact a1 y hy
   ·exact a2 x hx (fun q=>by
     rcases List.mem_append.1 q with q |q
     ·exact hn q
     ·simp only[List.mem_singleton]at q;exact GU q) y hy
def P5 {L:List Nd}(hw:WK L){root:Int}(hr:0≤root∧root<(L.length:Int)):(∃t,br L root=root::t)∧kL L (br L root)∧∀x∈br L root,∀y∈ph L x,y∈br L root:=by
 have h0:kL L []:=⟨List.nodup_nil,by simp⟩;obtain⟨a1,a2⟩:=WU hw (L.length+1) [] root h0 hr (by simp);obtain⟨b1,b2⟩:=vX hw (L.length+1) [] root h0 hr;refine⟨?_,b1,fun x hx=>a2 x hx (by simp)⟩;unfold br;rw[cX,if_neg (by simp)];obtain⟨t,e⟩:=JP L L.length (L.getD root.toNat ⟨0,[],[],false⟩).kids ([]++[root]);exact⟨t,by rw[e];rfl⟩
def By {o:List Int}{x:Int}(h:x∈o):nh o x<o.length∧o[nh o x]?=some x:=by
 have hl:nh o x<o.length:=List.findIdx_lt_length_of_exists ⟨_,h,by simp⟩;have he:decide (o[nh o x]=x)=true:=List.findIdx_getElem (w:=hl);exact⟨hl,by rw[aa hl,of_decide_eq_true he]⟩
def JS {o:List Int}(hn:o.Nodup){j:Nat}{x:Int}(h:o[j]?=some x):nh o x=j:=by
 have hx:x∈o:=List.mem_of_getElem? h;obtain⟨h1,h2⟩:=By hx;exact(List.getElem?_inj h1 hn).1 (h2.trans h.symm)
def vq {o:List Int}{x:Int}(h:x∈o):cU o x=(nh o x:Int):=by rw[cU,if_pos h]
def P7 {o:List Int}{x y:Int}(hx:x∈o)(hy:y∈o)(h:cU o x=cU o y):x=y:=by
 rw[vq hx,vq hy]at h;have h1:=(By hx).2;have h2:=(By hy).2;rw[show nh o x=nh o y by omega,h2]at h1;cases h1;rfl
def PW {L:List Nd}{root:Int}{x:Int}(h:x∈br L root):(cV L root)[(nh (br L root) x)]?=some (eh L (br L root) x):=by
 unfold cV;rw[List.getElem?_map,(By h).2];rfl
def Dy {L:List Nd}{i:Int}{n:Nd}(h:L[i.toNat]?=some n):L.getD i.toNat ⟨0,[],[],false⟩=n:=by rw[ak,h];rfl
def Wp {L:List Nd}(hw:WK L){root:Int}(hr:0≤root∧root<(L.length:Int)){v:Int→Int}{b:Bool}(h:cP L v root b):cP (cV L root) v 0 b:=by
 obtain⟨⟨t,ht⟩,ho,hc⟩:=P5 hw hr;have key:∀i b,cP L v i b→i∈br L root→cP (cV L root) v (nh (br L root) i:Int) b:=by
  intro i b h
  induction h with
  | @leaf i n h1 h2 h3=>
   intro hi;have e:=PW hi;have hn:=Dy h2;have e2:n.leaf=(eh L (br L root) i).leaf:=by unfold eh;simp only;rw[hn]
   rw[e2];exact cP.leaf (by omega) (by rw[Int.toNat_natCast];exact e) (by unfold eh;simp only;rw[hn,h3];rfl)
  | @node i j n b h1 h2 h3 h4 _ ih=>
   intro hi;have e:=PW hi;have hn:=Dy h2;have hk:(eh L (br L root) i).kids=n.kids.map (cU (br L root)):=by unfold eh;simp only;rw[hn]
   have hcu:(eh L (br L root) i).cuts=n.cuts:=by unfold eh;simp only;rw[hn]
   have C5:(eh L (br L root) i).fact=n.fact:=by unfold eh;simp only;rw[hn]
   have hj:j∈br L root:=hc i hi j (by unfold ph;rw[hn];exact List.mem_of_getElem? h4);refine cP.node (j:=(nh (br L root) j:Int)) (by omega) (by rw[Int.toNat_natCast];exact e) (by rw[hk];simpa using h3) ?_ (ih hj);have vd:kl (eh L (br L root) i) (v (eh L (br L root) i).fact)=kl n (v n.fact):=by
    unfold kl;rw[hk,hcu,C5,List.length_map]
   rw[vd,hk,List.getElem?_map,h4,← vq hj];rfl
 have h0:nh (br L root) root=0:=JS ho.1 (by rw[ht];rfl);have hm:root∈br L root:=by rw[ht];exact aq
 have:=key root b h hm;rw[h0]at this;exact this
def W7 {g:List Nd}{v:Int→Int}{i:Int}{b:Bool}(h:cP g v i b):cP (g.map eQ) v i (!b):=by
 induction h with
 | @leaf i n h1 h2 h3=>
  have e:(!n.leaf)=(eQ n).leaf:=by unfold eQ;rw[if_pos h3]
  rw[e];exact cP.leaf h1 (by rw[List.getElem?_map,h2];rfl) (by unfold eQ;rw[if_pos h3];exact h3)
 | @node i j n b h1 h2 h3 h4 _ ih=>
  have e:eQ n=n:=by unfold eQ;rw[if_neg h3]
  exact cP.node h1 (by rw[List.getElem?_map,h2];show some (eQ n)=_;rw[e]) h3 h4 ih
def WW {L:List Nd}(hw:WK L){o:List Int}(ho:kL L o)(hc:∀x∈o,∀y∈ph L x,y∈o):∀(f f2:Nat)(p:List Int) (i:Int),kL L p→(∀x∈p,x∈o)→i∈o→L.length<f+p.length→o.length<f2+p.length→cX (o.map (eh L o)) f2 (p.map (cU o)) (cU o i)=(cX L f p i).map (cU o)
 |0,f2,p,i,hp,_,_,hf,_=>by have:=hp.len;omega
 |f+1,0,p,i,hp,Jm,_,hf,tj=>by
  exfalso;have h1:(p.map Int.toNat).length≤(o.map Int.toNat).length:=Qj (List.pairwise_map.2 (hp.1.imp_of_mem fun {a b} ha hb aT=>by
   have:=hp.2 a ha;have:=hp.2 b hb;omega)) fun x hx=>by
    obtain⟨y,hy,rfl⟩:=List.mem_map.1 hx;exact List.mem_map.2 ⟨y,Jm y hy,rfl⟩
  simp at h1;omega
 |f+1,f2+1,p,i,hp,Jm,hi,hf,tj=>by
  rw[cX,cX];have bZ:cU o i∈p.map (cU o)↔i∈p:=by
   constructor
   ·intro h;obtain⟨y,hy,e⟩:=List.mem_map.1 h;rw[← P7 (Jm y hy) hi e];exact hy
   ·exact fun h=>List.mem_map.2 ⟨i,h,rfl⟩
  by_cases hm:i∈p
  ·rw[if_pos (bZ.2 hm),if_pos hm]
  ·rw[if_neg (fun q=>hm (bZ.1 q)),if_neg hm];have hir:=ho.2 i hi;have mM:((o.map (eh L o)).getD (cU o i).toNat ⟨0,[],[],false⟩).kids=(ph L i).map (cU o):=by
    have e:(o.map (eh L o))[(cU o i).toNat]?=some (eh L o i):=by
     rw[vq hi,Int.toNat_natCast,List.getElem?_map,(By hi).2];rfl
    rw[Dy e];rfl
   have tI:(p++[i]).map (cU o)=p.map (cU o)++[cU o i]:=(by simp);rw[mM,← tI];have key:∀(ks:List Int),(∀x∈ks,x∈o)→∀q,kL L q→(∀x∈q,x∈o)→L.length<f+q.length→o.length<f2+q.length→(ks.map (cU o)).foldl (cX (o.map (eh L o)) f2) (q.map (cU o))=(ks.foldl (cX L f) q).map (cU o):=by
    intro ks
    induction ks with
    |nil=>intro _ q _ _ _ _;rfl
    |cons k ks ih=>
     intro hk q hq Vm hf tj;have eY:=hk k aq;have mL:=ho.2 k eY;rw[List.map_cons,List.foldl_cons,List.foldl_cons,WW hw ho hc f f2 q k hq Vm eY hf tj];obtain⟨b1,b2⟩:=vX hw f q k hq mL;refine ih (fun x hx=>hk x (an _ hx)) _ b1 (fun x hx=>?_) (by omega) (by omega);exact nS hw hc f q k Vm eY x hx
   have jI:(p++[i]).length=p.length+1:=(by simp);exact key (ph L i) (hc i hi) (p++[i]) (hp.snoc hm hir) (fun x hx=>by
    rcases List.mem_append.1 hx with q |q
    ·exact Jm x q
    ·simp only[List.mem_singleton]at q;rw[q];exact hi) (by omega) (by omega)
 where
 nS {L:List Nd} (hw:WK L) {o:List Int} (hc:∀x∈o,∀y∈ph L x,y∈o):∀(f:Nat) (p:List Int) (i:Int),(∀x∈p,x∈o)→i∈o→∀x∈cX L f p i,x∈o
 |0,p,i,hp,_=>by rw[cX];exact hp
 |f+1,p,i,hp,hi=>by
  rw[cX];split
  ·exact hp
  ·have key:∀(ks:List Int),(∀x∈ks,x∈o)→∀q,(∀x∈q,x∈o)→∀x∈ks.foldl (cX L f) q,x∈o:=by
    intro ks
    induction ks with
    |nil=>intro _ q hq;exact hq
    |cons k ks ih=>
     intro hk q hq;rw[List.foldl_cons];exact ih (fun x hx=>hk x (an _ hx)) _ (nS hw hc f q k hq (hk k aq))
   refine key _ (hc i hi) (p++[i]) fun x hx=>?_
   rcases List.mem_append.1 hx with q |q
   ·exact hp x q
   ·simp only[List.mem_singleton]at q;rw[q];exact hi
def yj7 {o:List Int}(hn:o.Nodup):o.map (cU o)=(List.range o.length).map fun j:Nat=>(j:Int):=by
 refine List.ext_getElem? fun j=>?_;rw[List.getElem?_map,List.getElem?_map]
 by_cases hj:j<o.length
 ·rw[aa hj,List.getElem?_range hj];show some (cU o o[j])=some (j:Int);rw[vq (ah hj),JS hn (aa hj)]
 ·rw[List.getElem?_eq_none (by omega),List.getElem?_eq_none (by simpa using hj)];rfl
def yii {L:List Nd}(hw:WK L){root:Int}(hr:0≤root∧root<(L.length:Int)):cV (cV L root) 0=cV L root:=by
 obtain⟨⟨t,ht⟩,ho,hc⟩:=P5 hw hr;have hm:root∈br L root:=by rw[ht];exact aq
 have h0:nh (br L root) root=0:=JS ho.1 (by rw[ht];rfl);have pO:(cV L root).length=(br L root).length:=by simp[cV]
 have eF:br (cV L root) 0=(List.range (br L root).length).map fun j:Nat=>(j:Int):=by
  rw[← yj7 ho.1];have:=WW hw ho hc (L.length+1) ((cV L root).length+1) [] root ⟨List.nodup_nil,by simp⟩ (by simp) hm (by simp) (by simp[pO]);rw[vq hm,h0]at this;exact this
 generalize pT:br (cV L root) 0=o2 at eF;have hid:∀j:Nat,j<(br L root).length→(j:Int)∈o2∧cU o2 (j:Int)=(j:Int):=by
  intro j hj;have qX:o2.Nodup:=by
   rw[eF];exact List.pairwise_map.2 (List.nodup_range.imp fun {a b} h=>by omega)
  have e:o2[j]?=some (j:Int):=by
   rw[eF,List.getElem?_map,List.getElem?_range hj];rfl
  have lG:=List.mem_of_getElem? e;exact⟨lG,by rw[vq lG,JS qX e]⟩
 show (br (cV L root) 0).map (eh (cV L root) (br (cV L root) 0))=_;rw[pT];refine List.ext_getElem? fun j=>?_;rw[List.getElem?_map]
 by_cases hj:j<(br L root).length
 ·have e:o2[j]?=some (j:Int):=by
   rw[eF,List.getElem?_map,List.getElem?_range hj];rfl
  have fm:j<(cV L root).length:=by omega
  rw[e,aa fm];show some (eh (cV L root) o2 (j:Int))=some (cV L root)[j];have hg:(cV L root).getD (j:Int).toNat ⟨0,[],[],false⟩=(cV L root)[j]:=Dy (by rw[Int.toNat_natCast,aa fm]);unfold eh;rw[hg];have jX:∀x∈((cV L root)[j]).kids,cU o2 x=x:=by
   intro x hx;have hn:(cV L root)[j]=eh L (br L root) ((br L root)[j]):=by simp[cV]
   rw[hn]at hx;obtain⟨y,hy,e3⟩:=List.mem_map.1 hx;have wY:y∈br L root:=hc _ (ah hj) y hy;rw[vq wY]at e3;rw[← e3];exact(hid _ (By wY).1).2
  have:((cV L root)[j]).kids.map (cU o2)=((cV L root)[j]).kids:=by
   rw[List.map_congr_left jX,List.map_id']
  rw[this]
 ·have h1:o2.length=(br L root).length:=by rw[eF];simp
  rw[List.getElem?_eq_none (by omega),List.getElem?_eq_none (by omega)];rfl
def ru (d:List Fc)(L:List Nd) (r i:Int):Prop:=0≤r∧∃m,L[r.toNat]?=some m∧i≤bq m d
def ru.mono {d:List Fc}{L K:List Nd}{r i:Int}(hp:jw L K)(h:ru d L r i):ru d K r i:=by
 obtain⟨h1,m,h2,h3⟩:=h;exact⟨h1,m,hp _ _ h2,h3⟩
def ru.le {d:List Fc}{L:List Nd}{r i j:Int}(h:ru d L r i)(hj:j≤i):ru d L r j:=by
 obtain⟨h1,m,h2,h3⟩:=h;exact⟨h1,m,h2,by omega⟩
def Hg (d:List Fc)(L:List Nd)(n:Nd):Prop:=n.leaf=false∧0≤n.fact∧n.fact<(d.length:Int)∧n.cuts≠[]∧n.kids.length=n.cuts.length+1∧((d.getD n.fact.toNat ⟨.empty,0,0,0⟩).lo::n.cuts).Pairwise (· < ·)∧(∀c∈n.cuts,c≤(d.getD n.fact.toNat ⟨.empty,0,0,0⟩).hi)∧Hf n.kids∧∀x∈n.kids,ru d L x (n.fact+1)
def vp (d:List Fc)(L:List Nd):Prop:=∀n∈L,n.kids≠[]→Hg d L n
def Hg.mono {d:List Fc}{L K:List Nd}{n:Nd}(hp:jw L K)(h:Hg d L n):Hg d K n:=by
 obtain⟨h1,h2,h3,h4,h5,h6,h7,h8,h9⟩:=h;exact⟨h1,h2,h3,h4,h5,h6,h7,h8,fun x hx=>(h9 x hx).mono hp⟩
def vp.node {d:List Fc}{S:GS}{n:Nd}(h:vp d S.L)(hn:n.kids≠[]→Hg d S.L n):vp d (dp n S).2.L:=by
 have hp:=(DB n S).2.2;intro m hm hk;simp only[dp,jB]at hm;split at hm
 ·exact(h m hm hk).mono hp
 ·rcases List.mem_append.1 hm with q |q
  ·exact(h m q hk).mono hp
  ·simp only[List.mem_singleton]at q;rw[q]at hk ⊢;exact(hn hk).mono hp
def Ww {α:Type}{p q:α→Bool}:∀{l:List α},(∀x∈l,p x=q x)→bj p l=bj q l
 |[],_=>rfl
 |y::l,h=>by
  unfold bj;rw[h y aq,Ww fun x hx=>h x (an _ hx)]
def yj8 {n:Nd}{s w:Int}(hs:s≤w)(h:∀c∈n.cuts,¬(s<c∧c≤w)):kl n s=kl n w:=by
 unfold kl;rw[Ww (p:=fun c=>decide (s<c)) (q:=fun c=>decide (w<c)) fun x hx=>by
  have:=h x hx
  congr 1
  apply propext;omega]
def WS {a:List Nd}{d:List Fc}(ha:DgOk a d){x:Nat}(hx:x<a.length){i s:Int}{v:Int→Int}{b:Bool}(hi:i≤bq a[x] d)(hid:i<(d.length:Int))(hs:s≤v i)(hc:bq a[x] d=i→∀c∈(a[x]).cuts,¬(s<c∧c≤v i))(h:cP a v (x:Int) b):cP a v ((eR a[x] x i s).toNat:Int) b:=by
 obtain⟨o1,_⟩:=Cq ha hx i s hi hid;rw[Int.toNat_of_nonneg o1];unfold eR at o1 ⊢
 by_cases e:¬(a[x]).kids=[]∧(a[x]).fact=i
 ·rw[if_pos e]at o1 ⊢;have qN:bq a[x] d=i:=by rw[bq,if_neg e.1];exact e.2
  have hg:a[((x:Int)).toNat]?=some a[x]:=by rw[Int.toNat_natCast,aa hx]
  cases h with
  |leaf _ q2 q3=>rw[hg]at q2;cases q2;exact absurd q3 e.1
  |node _ q2 _ q4 q5=>
   rw[hg]at q2;cases q2;rw[e.2]at q4;rw[yj8 hs (hc qN),ak,q4];exact q5
 ·rw[if_neg e];exact h
def Bv (a b:List Nd)(d:List Fc)(L:List Nd) (r:Int) (x y:Nat):Prop:=∀ρ,yT d ρ→∀p q,cP a (vD d ρ) (x:Int) p→cP b (vD d ρ) (y:Int) q→cP L (vD d ρ) r (p && q)
def Bv.mono {a b:List Nd}{d:List Fc}{L K:List Nd}{r:Int}{x y:Nat}(hp:jw L K)(h:Bv a b d L r x y):Bv a b d K r x y:=fun ρ hr p q h1 h2=>(h ρ hr p q h1 h2).mono hp
def JM (a b:List Nd)(d:List Fc) (x y:Nat):Int:=jC (a.getD x (cz false)) (b.getD y (cz false)) d
def Dx (a b:List Nd)(d:List Fc)(L:List Nd) (r:Int) (x y:Nat):Prop:=Bv a b d L r x y∧ru d L r (JM a b d x y)
def Dx.mono {a b:List Nd}{d:List Fc}{L K:List Nd}{r:Int}{x y:Nat}(hp:jw L K)(h:Dx a b d L r x y):Dx a b d K r x y:=⟨h.1.mono hp,h.2.mono hp⟩
def JH (a b:List Nd)(d:List Fc)(H:HS):Prop:=vp d H.L∧∀p∈H.M,∃x y:Nat,p.1=((x:Int),(y:Int))∧Dx a b d H.L p.2 x y
def Wr {t:Int×Int}{v:Int}:∀{D:List ((Int×Int)×Int)},ld t D=some v→(t,v)∈D
 |[],h=>by cases h
 |(k,w)::l,h=>by
  rw[ld]at h
  by_cases e:t=k
  ·rw[if_pos e]at h;cases h;rw[e];exact aq
  ·rw[if_neg e]at h;exact an _ (Wr h)
def WI {t:Int×Int}{v:Int}:∀{D:List ((Int×Int)×Int)}{p:(Int×Int)×Int},p∈mX t v D→p∈D∨p=(t,v)
 |[],p,h=>by
  simp[mX]at h;exact .inr h
 |(k,w)::l,p,h=>by
  rw[mX]at h
  by_cases e:t=k
  ·rw[if_pos e]at h
   rcases List.mem_cons.1 h with q |q
   ·exact .inr (by rw[q,e])
   ·exact .inl (an _ q)
  ·rw[if_neg e]at h
   rcases List.mem_cons.1 h with q |q
   ·exact .inl (by rw[q];exact aq)
   ·rcases WI q with q |q
    ·exact .inl (an _ q)
    ·exact .inr q
def V9 (L:List Nd)(n:Nd):L.length≤(jB L n).length:=by
 by_cases h:bV n∈L.map bV
 ·rw[jB,if_pos h];exact ae _
 ·rw[jB,if_neg h];simp
def WG (n:Nd)(H:HS):H.L.length≤(vW n H).2.L.length:=V9 _ _
def Wz (i:Nat)(st ks:List Int)(H:HS):H.L.length≤(kK i st ks H).2.L.length:=by
 by_cases h:(bN (jr ks) [] [jr ks] st ks).2.2.length=1
 ·simp only[kK,eT];rw[if_pos h];exact ae _
 ·simp only[kK,eT];rw[if_neg h];exact V9 _ _
def PU {g:Int→HS→Int×HS}(hg:∀v H,H.L.length≤(g v H).2.L.length):∀(l:List Int)(H:HS),H.L.length≤(fR g l H).2.L.length
 |[],H=>ae _
 |v::l,H=>Nat.le_trans (hg v H) (PU hg l _)
def PN (a b:List Nd)(d:List Fc):∀(k x y:Nat)(H:HS),H.L.length≤(fD a b d k x y H).2.L.length
 |0,_,_,_=>ae _
 |k+1,x,y,H=>by
  rw[fD];cases ld ((x:Int),(y:Int)) H.M with
  |some v=>exact ae _
  |none=>
   simp only;split
   ·exact WG _ _
   ·refine Nat.le_trans (PU (fun v H=>?_) _ H) (Wz _ _ _ _);exact PN a b d k _ _ H
def Wo {J:HS→Prop}{g:Int→HS→Int×HS}{F:Int→List Nd→Int→Prop}(hF:∀v L K r,jw L K→F v L r→F v K r)(hm:∀v H,H.L.length≤(g v H).2.L.length):∀(l:List Int),(∀v∈l,∀H,J H→(g v H).2.L.length≤20000→J (g v H).2∧jw H.L (g v H).2.L∧F v (g v H).2.L (g v H).1)→∀H,J H→(fR g l H).2.L.length≤20000→J (fR g l H).2∧jw H.L (fR g l H).2.L∧(fR g l H).1.length=l.length∧∀p∈l.zip (fR g l H).1,F p.1 (fR g l H).2.L p.2
 |[],_,H,h,_=>⟨h,.refl _,rfl,by simp⟩
 |v::l,hg,H,h,hf=>by
  obtain⟨a1,a2,a3⟩:=hg v aq H h (Nat.le_trans (PU hm l _) hf);obtain⟨b1,b2,b3,b4⟩:=Wo hF hm l (fun v hv=>hg v (an _ hv)) (g v H).2 a1 hf;refine⟨b1,a2.trans b2,by simp[fR,b3],fun p hp=>?_⟩;simp only[fR,List.zip_cons_cons]at hp ⊢
  rcases List.mem_cons.1 hp with q |q
  ·rw[q];exact hF _ _ _ _ b2 a3
  ·exact b4 p q
def JV:∀{l:List Int}{hi lo:Int},pB hi lo l→(lo::l).Pairwise (· < ·)∧∀c∈l,c≤hi
 |[],_,_,_=>by simp
 |c::l,hi,lo,h=>by
  obtain⟨h1,h2,h3⟩:=h;obtain⟨a1,a2⟩:=JV h3;refine⟨List.pairwise_cons.2 ⟨fun z hz=>?_,a1⟩,fun z hz=>?_⟩
  ·rcases List.mem_cons.1 hz with q |q
   ·omega
   ·have:=(List.pairwise_cons.1 a1).1 z q;omega
  ·rcases List.mem_cons.1 hz with q |q
   ·omega
   ·exact a2 z q
def Wh:∀{l:List Int}{hi lo:Int},(lo::l).Pairwise (· < ·)→(∀c∈l,c≤hi)→pB hi lo l
 |[],_,_,_,_=>trivial
 |c::l,hi,lo,h,h2=>by
  obtain⟨p1,p2⟩:=List.pairwise_cons.1 h;have:=p1 c aq;have:=h2 c aq;exact⟨by omega,by omega,Wh p2 fun z hz=>h2 z (an _ hz)⟩
def Wb {a:List Nd}{d:List Fc}(ha:DgOk a d){p:Nd}(hp:p∈a){i:Int}(hi:bq p d=i)(hid:i<(d.length:Int)):∀c∈p.cuts,(d.getD i.toNat ⟨.empty,0,0,0⟩).lo<c∧c≤(d.getD i.toNat ⟨.empty,0,0,0⟩).hi:=by
 rcases ha.pr p hp with⟨e,_⟩ |⟨e1,_,_,_,_,h6,h7,_⟩
 ·rw[EA e]at hi;omega
 ·rw[bq,if_neg e1]at hi;subst hi;have e:d.getD p.fact.toNat ⟨.empty,0,0,0⟩=d[p.fact.toNat]:=by rw[ak,aa h6];rfl
  rw[e];obtain⟨a1,a2⟩:=JV h7;exact fun c hc=>⟨(List.pairwise_cons.1 a1).1 c hc,a2 c hc⟩
def yi2 {a b:List Nd}{d:List Fc}(ha:DgOk a d)(hb:DgOk b d)(eE:∀x∈d,x.lo≤x.hi):∀(k x y:Nat)(H:HS)(hx:x<a.length)(hy:y<b.length),(d.length:Int)+1≤k+jC a[x] b[y] d→(fD a b d k x y H).2.L.length≤20000→JH a b d H→JH a b d (fD a b d k x y H).2∧jw H.L (fD a b d k x y H).2.L∧Dx a b d (fD a b d k x y H).2.L (fD a b d k x y H).1 x y:=by
 intro k
 induction k with
 |zero=>
  intro x y H hx hy hk;have:=(x9 ha hb (ah hx) (ah hy)).2.1;omega
 |succ k ih=>
  intro x y H hx hy hk hL hJ;have Vc:=PN a b d (k+1) x y H;rw[fD]at hL ⊢;cases hg:ld ((x:Int),(y:Int)) H.M with
  |some v=>
   simp only;refine⟨hJ,.refl _,?_⟩;obtain⟨x2,y2,e1,e2⟩:=hJ.2 _ (Wr hg);simp only[Prod.mk.injEq]at e1;have ex:x=x2:=by omega
   have ey:y=y2:=(by omega);rw[ex,ey];exact e2
  |none=>
   rw[hg]at hL;simp only at hL ⊢;rw[vY hx,vY hy]at hL ⊢;have NF:JM a b d x y=jC a[x] b[y] d:=by unfold JM;rw[vY hx,vY hy]
   obtain⟨i1,i2,i3,i4⟩:=x9 ha hb (ah hx) (ah hy);have nI:jC a[x] b[y] d=bq a[x] d∨jC a[x] b[y] d=bq b[y] d:=by unfold jC Ey;omega
   generalize hi:jC a[x] b[y] d=i at i1 i2 i3 i4 hk hL nI NF
   by_cases hc:i=(d.length:Int)∨20000<H.L.length
   ·rw[if_pos hc]at hL ⊢;have hid:i=(d.length:Int):=by
     rcases hc with q |q
     ·exact q
     ·have:=WG (cz (a[x].leaf && b[y].leaf)) H;omega
    obtain⟨n1,n2,n3⟩:=DB (cz (a[x].leaf && b[y].leaf)) H.gs;have jX:∀{g:List Nd} (hg:DgOk g d) {z:Nat} (hz:z<g.length),(d.length:Int)≤bq g[z] d→(g[z]).kids=[]:=fun {g} hg {z} hz h=>by
     by_cases hk:(g[z]).kids=[]
     ·exact hk
     ·have:=((Ex hg (ah hz)).2.2 hk).2.1;omega
    have fU:∀{g:List Nd} (hg:DgOk g d) {z:Nat} (hz:z<g.length),(d.length:Int)≤bq g[z] d→∀v p,cP g v (z:Int) p→p=(g[z]).leaf:=fun {g} hg {z} hz h v p hp=>by
     have hk:=jX hg hz h;have e:g[((z:Int)).toNat]?=some g[z]:=by rw[Int.toNat_natCast,aa hz]
     exact hp.det (cP.leaf (by omega) e hk)
    refine⟨⟨vp.node hJ.1 (fun q=>absurd rfl q),fun p hp=>?_⟩,n3,fun ρ _ p q hp hq=>?_,n2,cz (a[x].leaf && b[y].leaf),n1,?_⟩
    ·obtain⟨x2,y2,e1,e2⟩:=hJ.2 p hp;exact⟨x2,y2,e1,e2.mono n3⟩
    ·rw[fU ha hx (by omega) _ p hp,fU hb hy (by omega) _ q hq];exact WC _ H.gs _
    ·rw[NF,EA rfl];exact i2
   ·rw[if_neg hc]at hL ⊢;have hid:i<(d.length:Int):=by omega
    have kp:i.toNat<d.length:=(by omega);have Oe:((i.toNat:Nat):Int)=i:=(by omega);obtain⟨f,hf⟩:∃f,f=d.getD i.toNat ⟨.empty,0,0,0⟩:=⟨_,rfl⟩;have Au:f∈d:=by
     rw[hf,ak,aa kp];exact ah kp
    have ij:=eE f Au;rw[← hf]at hL ⊢;obtain⟨o1,o2⟩:=yj6 a[x] b[y] d i f.lo;have dA:bq a[x] d=i→∀c∈(a[x]).cuts,f.lo<c∧c≤f.hi:=fun q=>by rw[hf];exact Wb ha (ah hx) q hid
    have NM:bq b[y] d=i→∀c∈(b[y]).cuts,f.lo<c∧c≤f.hi:=fun q=>by rw[hf];exact Wb hb (ah hy) q hid
    have oZ:∀s∈ll a[x] b[y] d i f.lo,f.lo≤s∧s≤f.hi:=fun s hs=>by
     rcases (o2 s).1 hs with q |⟨q1,q2⟩ |⟨q1,q2⟩
     ·omega
     ·have:=dA q1 s q2;omega
     ·have:=NM q1 s q2;omega
    have sY:(fR (fun v H=>fD a b d k (eR a[x] x i v).toNat (eR b[y] y i v).toNat H) (ll a[x] b[y] d i f.lo) H).2.L.length≤20000:=Nat.le_trans (Wz _ _ _ _) hL;obtain⟨b1,b2,b3,b4⟩:=Wo (J:=JH a b d) (F:=fun v L r=>Bv a b d L r (eR a[x] x i v).toNat (eR b[y] y i v).toNat∧ru d L r (i+1)) (fun v L K r hp h=>⟨h.1.mono hp,h.2.mono hp⟩) (fun v H=>PN a b d k _ _ H) (ll a[x] b[y] d i f.lo) (fun v _ S hS hSl=>by
     obtain⟨s1,s2,s3⟩:=Cq ha hx i v i3 hid;obtain⟨t1,t2,t3⟩:=Cq hb hy i v i4 hid;have qW:i+1≤jC (a[(eR a[x] x i v).toNat]) (b[(eR b[y] y i v).toNat]) d:=by unfold jC Ey;omega
     obtain⟨a1,a2,a3,a4⟩:=ih _ _ S s2 t2 (by omega) hSl hS;refine⟨a1,a2,a3,a4.le ?_⟩;unfold JM;rw[vY s2,vY t2];exact qW) H hJ sY
    clear ih sY;generalize fR (fun v H=>fD a b d k (eR a[x] x i v).toNat (eR b[y] y i v).toNat H) (ll a[x] b[y] d i f.lo) H=r at *;obtain⟨ks,T⟩:=r;simp only at b1 b2 b3 b4 hL ⊢
    match aU:ll a[x] b[y] d i f.lo,ks with
    |[],_=>exact absurd aU (Qn _ _ _ _ _)
    |_::_,[]=>rw[aU]at b3;simp at b3
    |s0::st,k0::ks=>
     rw[aU]at b3 b4 o1 o2 oZ;have tD:f.lo∈s0::st:=(o2 f.lo).2 (.inl rfl);have pV:s0=f.lo:=by
      have h1:=oZ s0 aq
      rcases List.mem_cons.1 tD with q |q
      ·exact q.symm
      ·have:=(List.pairwise_cons.1 o1).1 _ q;omega
     obtain⟨c1,c2⟩:=P0 i.toNat s0 k0 st ks T.gs o1;have VC:∀z∈k0::ks,ru d T.L z (i+1):=fun z hz=>by
      obtain⟨j,hj,e⟩:=List.getElem_of_mem hz;have fm:j<(s0::st).length:=by omega
      have bZ:((s0::st)[j],(k0::ks)[j])∈(s0::st).zip (k0::ks):=by
       have hjz:j<((s0::st).zip (k0::ks)).length:=by simp only[List.length_zip];omega
       have:((s0::st).zip (k0::ks))[j]=((s0::st)[j],(k0::ks)[j]):=by rw[List.getElem_zip]
       rw[← this];exact ah hjz
      have:=(b4 _ bZ).2;rw[← e];exact this
     have NK:vp d (kK i.toNat (s0::st) (k0::ks) T).2.L:=by
      rcases c2 with⟨e,_⟩ |⟨n,e,q1,q2,q3,q4,q5,q6,q7,q8,q9,PD⟩
      ·show vp d (eT i.toNat (s0::st) (k0::ks) T.gs).2.L;rw[e];exact b1.1
      ·show vp d (eT i.toNat (s0::st) (k0::ks) T.gs).2.L;rw[e];refine vp.node b1.1 fun _=>?_;have uT:d.getD n.fact.toNat ⟨.empty,0,0,0⟩=f:=by rw[q1,Int.toNat_natCast,hf]
       refine⟨q2,by omega,by omega,q5,q6,?_,?_,q9,fun z hz=>?_⟩
       ·rw[uT];refine List.pairwise_cons.2 ⟨fun c hc=>?_,q7⟩;have:=(List.pairwise_cons.1 o1).1 c (q8 c hc);omega
       ·rw[uT];exact fun c hc=>(oZ c (an _ (q8 c hc))).2
       ·rw[q1,Oe];exact VC z (PD z hz)
     have qN:ru d (kK i.toNat (s0::st) (k0::ks) T).2.L (kK i.toNat (s0::st) (k0::ks) T).1 i:=by
      show ru d (eT i.toNat (s0::st) (k0::ks) T.gs).2.L (eT i.toNat (s0::st) (k0::ks) T.gs).1 i
      rcases c2 with⟨e,_⟩ |⟨n,e,q1,q2,q3,_⟩
      ·rw[e];exact(VC k0 aq).le (by omega)
      ·rw[e];obtain⟨n1,n2,_⟩:=DB n T.gs;refine⟨n2,n,n1,?_⟩;rw[bq,if_neg q3];omega
     have hand:Bv a b d (kK i.toNat (s0::st) (k0::ks) T).2.L (kK i.toNat (s0::st) (k0::ks) T).1 x y:=by
      intro ρ hr p q hp hq;obtain⟨r1,r2⟩:=hr f Au;have hv:vD d ρ i=ρ f.name:=by rw[hf];rfl
      obtain⟨s,a1,a2,a3,a4⟩:=P6 (P:=fun v r=>Bv a b d T.L r (eR a[x] x i v).toNat (eR b[y] y i v).toNat∧ru d T.L r (i+1)) (w:=vD d ρ i) st ks k0 s0 o1 (by omega) (b4 (s0,k0) (by simp)) (by simpa using b3.symm) fun p hp=>b4 p (by simp only[List.zip_cons_cons];exact an _ hp);have ha2:=WS ha hx i3 hid a2 (fun e c hc z=>by have:=a3 c ((o2 c).2 (.inr (.inl ⟨e,hc⟩))) z.2;omega) hp;have iJ:=WS hb hy i4 hid a2 (fun e c hc z=>by have:=a3 c ((o2 c).2 (.inr (.inr ⟨e,hc⟩))) z.2;omega) hq;have:=a4.1 ρ hr p q ha2 iJ;refine Wy (S:=T.gs) o1 ?_;rw[Oe];exact this
     have bZ:Dx a b d (kK i.toNat (s0::st) (k0::ks) T).2.L (kK i.toNat (s0::st) (k0::ks) T).1 x y:=⟨hand,by rw[NF];exact qN⟩;refine⟨⟨NK,fun p hp=>?_⟩,b2.trans c1,bZ⟩
     rcases WI hp with q |q
     ·obtain⟨x2,y2,e1,e2⟩:=b1.2 p q;exact⟨x2,y2,e1,e2.mono c1⟩
     ·exact⟨x,y,by rw[q],by rw[q];exact bZ⟩
end
end
end Go.Ev
