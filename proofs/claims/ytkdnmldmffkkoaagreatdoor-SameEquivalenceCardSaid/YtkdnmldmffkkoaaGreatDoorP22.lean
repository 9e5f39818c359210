/- Texts. -/
import Derived.Test.YtkdnmldmffkkoaaGreatDoorP21
set_option linter.unusedSimpArgs false
set_option linter.unusedVariables false
set_option maxRecDepth 100000
set_option maxHeartbeats 8000000
namespace Go.Ev
open Go.Proofs Go.RowKit
noncomputable section
attribute [-go_sem] dw bP ep
theorem zOe {P:Program}{c:Cx}(hc:CxOk P c){fid:FuncId}{fn:Func}(cA:c.ft.get fid=some fn){es e sz:Nat}{full:Bool}{h:Tr ABlk}{nx:Nat}{R:AV→Tr ABlk→Nat→Prop}
  (h1:∀(n cp:Nat) (w:World),Calls P fid #[.slice none n cp] w fun e w'=>e=.returned (.slice none 0 0)∧w'=w)
  (h2:∀(a:Addr) (cp:Nat) (w:World),Calls P fid #[.slice (some a) 0 cp] w fun q w'=>∃v',q=.returned v'∧w'.ownsRow w.heap.size e sz v' 0 []∧v'≠.slice none 0 0∧Below w.heap.size w w')
  (hR:R (.fz es false []) h nx):aN P c fid [.fz es full []] h nx R:=by
 intro σ w A hk hA;simp only[aC,av]at hA;obtain⟨V,L,rfl,⟨a,cap,rfl,_,_,ha,_⟩,rfl⟩:=hA;refine GJ hc cA ?_;cases a with
 |none=>
  refine(h1 0 cap w).mono ?_
  rintro q w' ⟨rfl,rfl⟩
  exact⟨σ,.fz es false [],h,nx,by simp only[av];exact⟨none,0,rfl,by simp,by simp,by simp,by simp⟩,.refl hk,hR⟩
 |some a=>
  refine(h2 a cap w).mono ?_
  rintro q w' ⟨v',rfl,ho,aQ,hb⟩
  refine⟨σ,.fz es false [],h,nx,?_,Post.same hk hb.os hb.tape hb.output hb.size hb.block,hR⟩;obtain⟨_,⟨e1,_⟩ |⟨g,cp,cur,e1,_⟩⟩:=ho
  ·exact absurd e1 aQ
  ·simp only[av];exact⟨_,cp,e1,by simp,by simp,by simp,by simp⟩
theorem YD (l:List Int):(aI l).flatMap AV.cells=aI l:=by
 induction l with
 |nil=>rfl
 |cons x l ih=>
  rw[show aI (x::l)=.int .i64 x::aI l from rfl,List.flatMap_cons,ih];rfl
theorem zRs (u:Bool)(l:List Int)(hl:l.length≤16000000)(h:Tr ABlk) (nx:Nat)(R:AV→Tr ABlk→Nat→Prop)(EC:l=[]→R (.fz 1 false []) h nx)
  (eX:l≠[]→∀g q ny,aA nx h g→nx≤q→q<ny→g.get q=some (bx 3 (aI l) true 1)→R (.sl q 0 l.length 0 true) g ny):aN Tryz.prog cx 207 [.fz 1 u (aI l)] h nx R:=by
 cases l with
 |nil=>exact zOe aE WB (fun n cp w=>Any.slices_Clone_int_nil Tryz.lays2n15 n cp w) (fun a cp w=>Any.slices_Clone_int_zero Tryz.lays2n15 a cp w) (EC rfl)
 |cons x xs=>
  have hc:=YD (x::xs);have hlen:=Jt xs;refine zJ9 u (.int .i64 x) (aI xs) (by rw[show (AV.int .i64 x)::aI xs=aI (x::xs) from rfl,hc];exact ve _) (by rw[hlen];simp at hl;omega) h nx R fun g q ny e1 e2 e3 e4=>?_;rw[show (AV.int .i64 x)::aI xs=aI (x::xs) from rfl,hc]at e4;have:=eX (by simp) g q ny e1 e2 e3 e4;rw[hlen];exact this
def cK (o:List Int) (x:Int):Int:=if x∈o then (my o x:Int) else 0
def dN (L:List Nd)(o:List Int) (i:Int):Nd:=
 ⟨(L.getD i.toNat ⟨0,[],[],false⟩).fact,(L.getD i.toNat ⟨0,[],[],false⟩).cuts,(L.getD i.toNat ⟨0,[],[],false⟩).kids.map (cK o),(L.getD i.toNat ⟨0,[],[],false⟩).leaf⟩
def bl (L:List Nd) (root:Int):List Int:=cN L (L.length+1) [] root
def cL (L:List Nd) (root:Int):List Nd:=(bl L root).map (dN L (bl L root))
theorem YU {L:List Nd}(hw:WK L) (f:Nat):∀(ks:List Int),(∀x∈ks,0≤x∧x<(L.length:Int))→∀o1,jX L o1→o1.length≤(ks.foldl (cN L f) o1).length
 |[],_,o1,_=>ae _
 |k::ks,hk,o1,h1=>by
  obtain⟨a1,a2⟩:=vj hw f o1 k h1 (hk k ao);have:=YU hw f ks (fun x hx=>hk x (ak _ hx)) _ a1;simp only[List.foldl_cons];omega
theorem zxu {L:List Nd}(hw:WK L){root:Int}(hr:0≤root∧root<(L.length:Int)):bl L root≠[]:=by
 intro e;rw[bl,cN,if_neg (by simp)]at e;have hk:∀x∈(L.getD root.toNat ⟨0,[],[],false⟩).kids,0≤x∧x<(L.length:Int):=by
  have hl:root.toNat<L.length:=by omega
  rw[an,aa hl];exact hw _ (ai hl)
 have:=YU hw L.length _ hk ([]++[root]) (jX.snoc ⟨by simp,by simp⟩ (by simp) hr);rw[e]at this;simp at this
@[go_sem] theorem zW8 (x:Int)(o:List Int)(h:Tr ABlk) (nx:Nat):bP false (.int .i64 0) (uV x o 0) h nx=.val (.int .i64 (cK o x)) h nx:=by
 by_cases e:x∈o
 ·rw[Qz 0 e,cK,if_pos e];simp[bP,my]
 ·rw[PR 0 e,cK,if_neg e];rfl
def Kh (lo:Nat)(h:Tr ABlk) (nx:Nat)(vk:AV)(cur:List Int):Prop:=(cur=[]∧vk=.fz 1 false [])∨(cur≠[]∧∃b,lo<b∧b<nx∧vk=.sl b 0 cur.length 0 true∧h.get b=some (bx 3 (aI cur) true 1))
structure ld (o:List Int) (q nx ny p:Nat)(cells:List AV)(h:Tr ABlk):Prop where
 gq:h.get q=some (bx 3 (aI o) true 1)
 gm:h.get nx=some (bx 182 [.ptr p 0] false 0)
 gp:h.get (nx+3)=some (bx 234 [.map (nx+2)] false 0)
 ge:h.get (nx+2)=some (.map (oF o 0) o.length)
 gz:h.get (nx+1)=some (bx 92 [.sl0] false 0)
 gu:h.get (ny+1)=some (bx 92 [.sl ny 0 o.length o.length false] false 0)
 gt:h.get ny=some (bx 154 cells false 0)
theorem ld.mono {o:List Int}{q nx ny p m:Nat}{cells:List AV}{h g:Tr ABlk}(S:ld o q nx ny p cells h)(e:∀k,k<m→g.get k=h.get k)(h1:nx+6≤ny)(h2:q<ny)(h3:ny+2≤m):ld o q nx ny p cells g:=by
 obtain⟨gq,gm,gp,ge,gz,gu,gt⟩:=S;refine⟨?_,?_,?_,?_,?_,?_,?_⟩
 all_goals (rw[e _ (by omega)];assumption)
theorem Y0 {D:List Nd}{n:Nd}{z4:List AV}{m k:Nat}(hD:D.length=k)(hz:z4.length=4):aG (D.flatMap Nd.cs++ko z4 (m+1)) (k * 4) n.cs=(D++[n]).flatMap Nd.cs++ko z4 m:=by
 have h1:(D.flatMap Nd.cs).length=k * 4:=by rw[A6,hD]
 have h2:n.cs.length=4:=by cases n;rfl
 rw[zQ9,List.take_left' h1,h2,zyx,List.drop_append,h1,show k * 4+4-k * 4=4 by omega,aq (by omega),List.nil_append,List.drop_left' hz];simp
theorem zU6:cx.ft.get 146=some Tryz.f146:=aT (by decide) (by kernel_rfl)
section
variable (ops : List Oper) (K : AS → Prop) (dst : Option Tmp) (ty : TypeId) (pos : String) (aZ : Array Edge) (tm : Tr AV) (h : Tr ABlk) (nx : Nat) (ds : List DE) (P : Program) (c : Cx) (sz : Nat)
@[go_sem ↓] theorem zX2 (t:TypeId)(l cp:Operand):cz P c sz ops ⟨dst,.makeSlice t l cp,ty,pos,aZ,none⟩ K (.mk tm h nx ds)=dp sz dst tm ds K (Dt c t l cp tm h nx):=rfl
end
attribute [go_sem] Dt
@[go_sem] theorem zY3 (e a1 a2 b1 bytes n:Nat)(a3:Option AV)(a4 b4:List (Nat×Nat×Bool))(d2:TypeDesc)(z:AV)(k1 k2:IntKind)(h:Tr ABlk) (nx:Nat)(h1:n≤16777216)(h2:bytes≤16777216):
  Hc (.mk (.slice e) a1 a2 a3 a4) (some (.mk d2 b1 bytes (some z) b4)) e (.int k1 (n:Int)) (.int k2 (n:Int)) h nx=.val (.sl nx 0 n n false) (h.put nx (some (bx e (ko z.cells n) false 0))) (nx+1):=by
 simp[Hc,A9,Nat.beq_refl,iL,h1,h2,fN_eq,newK_eq]
theorem lh {a b:Nat}(h:a<b):(a=b)=False:=by simp;omega
theorem Xo (z:List AV) (n:Nat):(ko z n).length=n * z.length:=by
 induction n with
 |zero=>simp[zzh]
 |succ n ih=>rw[zyx,List.length_append,ih,Nat.succ_mul];omega
theorem Qe (O:Nat→Prop)(L:List Nd) (p nx:Nat)(h:Tr ABlk) (root:Int)(hM:jC O h nx p L)(hO:∀k,O k→k<nx)(hw:WK L)(eZ:∀n∈L,n.kids.length≤1000000)(hl:L.length≤1000000)(hr:0≤root∧root<(L.length:Int)):
  aN Tryz.prog cx 146 [.ptr p 0,.int .i64 root] h nx (fun v g ny=>v=(if 20000<(bl L root).length then .tup [.agg [.fz 4 false []],.int .i64 2] else .tup [.agg [.fz 4 false (bK (cL L root))],.int .i64 0])∧g=h∧ny=nx):=by
 refine aN.mkW fun R hR=>aV (sz:=71) (rs:=[.cell 4 92,.tmp 5]) aE zU6 rfl rfl rfl (by simp) ?_;have TQ:jC (fun k=>k<nx) h nx p L:=hM.mono hO (fun _ _ _=>rfl) (ae _);have z1:¬nx+3=nx+2:=by omega
 simp-implicitDefEqProofs[go_sem,aG];have E0:∀(x1 x2 x3 x4 x5 x6 x7:Option ABlk) (g0:Tr ABlk),aA nx h g0→aA nx h g0:=fun _ _ _ _ _ _ _ _ e=>e;clear E0;generalize dh:Tr.put _ (nx+2+1+1+1) (some (bx 235 [AV.func 206 [] _] false 0))=h0;have E0:aA nx h h0:=by
  rw[← dh];simp(disch:=omega)only[aL];exact aA.refl _ _
 have g1:h0.get (nx+1)=some (bx 92 [.sl0] false 0):=by rw[← dh];simp[go_sem]
 have kg:VsSt nx p 0 [] h0 (nx+6):=by
  refine⟨by omega,?_,?_,?_,?_,.inl ⟨rfl,?_⟩⟩
  all_goals (rw[← dh];simp(disch:=omega) [go_sem,oF,lh])
 clear dh;refine zS8 L nx p hw eZ hl (L.length+1) [] h0 (nx+6) 0 root _ (TQ.ext E0 (by omega)) kg ⟨by simp,by simp⟩ hr (by simp) fun g ny q c1 c2 c3=>?_;have r7:=(vj hw (L.length+1) [] root ⟨by simp,by simp⟩ hr).1;have ho:cN L (L.length+1) [] root=bl L root:=rfl;rw[ho]at c3 r7;have aQ:=zxu hw hr;unfold cL at hR;obtain⟨lb,gm,ge,gp,gv,go⟩:=c3
 rcases go with⟨e,_⟩ |⟨_,q1,q2,go,gq⟩
 ·exact absurd e aQ
 have Cn:=r7.len;have El:g.get (nx+1)=some (bx 92 [.sl0] false 0):=by rw[c1.2];exact g1
 have E1:aA nx h g:=fun k hk=>by rw[c1.1 k hk];exact E0 k hk
 clear c1 g1 E0 kg;generalize bl L root=o at *
 by_cases dH:20000<o.length
 ·rw[if_pos dH]at hR;have gZ:(20000:Int)<(o.length:Int):=by omega
  simp-implicitDefEqProofs[go_sem,aB,go,gZ,El,aG];refine hR _ _ _ (.tup [.agg [.sl0],.int .i64 2]) ?_ (Fz.eq rfl rfl) ?_
  ·simp(disch:=omega)only[aL];exact E1
  ·exact .tup _ _ (.cons _ _ _ _ (.agg _ _ (.cons _ _ _ _ (.sl0 4 false) .nil)) (.cons _ _ _ _ (.same _) .nil))
 ·rw[if_neg dH]at hR;have gZ:¬(20000:Int)<(o.length:Int):=by omega
  have od:o.length≤16777216:=by omega
  have d1:¬nx+4=ny:=by omega
  have d2:¬nx+3=ny:=by omega
  have d3:¬nx+2=ny:=by omega
  have d4:¬q=ny:=by omega
  have d5:¬q=ny+1:=by omega
  have d6:¬nx=ny:=by omega
  have d7:¬nx=ny+1:=by omega
  have d8:¬nx+1=ny:=by omega
  obtain⟨z4,ye⟩:∃z4:List AV,z4=[.int .i64 0,.sl0,.sl0,.bool false]:=⟨_,rfl⟩;simp-implicitDefEqProofs[go_sem,aB,go,gZ,od,d1,d2,aG];rw[← ye];refine bT (fun mm st=>∃tm h' ax k,st=.mk tm h' ax []∧mm=o.length-k∧k≤o.length∧tm.get 2=some (.ptr nx 0)∧tm.get 4=some (.ptr (nx+1) 0)∧tm.get 6=some (.ptr (nx+3) 0)∧tm.get 9=some (.ptr (ny+1) 0)∧tm.get 27=some (.sl q 0 o.length 0 true)∧tm.get 28=some (.int .i64 (o.length:Int))∧tm.get 29=some (.int .i64 (k:Int))∧
 ld o q nx ny p (((o.take k).map (dN L o)).flatMap Nd.cs++ko z4 (o.length-k)) h'∧aA nx h h'∧ny+2≤ax) ⟨o.length,_,_,_,0,rfl,by simp,by simp,?_⟩ ?_
  ·simp-implicitDefEqProofs[go_sem];refine⟨⟨?_,?_,?_,?_,?_,?_,?_⟩,?_⟩
   all_goals first |(simp(disch:=omega) [go_sem,lh,gq,gm,gp,ge,El,d4,d5,d6,d7,d8,d3,ye];done) |(simp(disch:=omega)only[aL];exact E1)
  ·rintro mm st ⟨tm,h',ax,k,rfl,rfl,hk,t2,t4,t6,t9,t27,t28,t29,hF,he,qh⟩ J hJ
   obtain⟨nA,H4,LP,ge',To,Tm,H6⟩:=hF;have hF:ld o q nx ny p (((o.take k).map (dN L o)).flatMap Nd.cs++ko z4 (o.length-k)) h':=⟨nA,H4,LP,ge',To,Tm,H6⟩;refine bt aE _ ?_
   by_cases az:k<o.length
   ·generalize H8:((o.take k).map (dN L o)).flatMap Nd.cs++ko z4 (o.length-k)=CL at H6 hF;obtain⟨x,hx⟩:∃x,x=o[k]:=⟨_,rfl⟩;have hxr:=r7.2 o[k] (ai az);rw[← hx]at hxr;obtain⟨xN,UL⟩:∃xN:Nat,x=(xN:Int):=⟨x.toNat,by omega⟩;have Cv:xN<L.length:=by omega
    obtain⟨n,hn⟩:∃n,n=L[xN]:=⟨_,rfl⟩;have Fg:dN L o x=⟨n.fact,n.cuts,n.kids.map (cK o),n.leaf⟩:=by
     rw[hn];simp only[dN,UL,Int.toNat_natCast,an,aa Cv];rfl
    have Nu:n.kids.length≤1000000:=by rw[hn];exact eZ _ (ai Cv)
    have dM:(o.take (k+1)).map (dN L o)=(o.take k).map (dN L o)++[⟨n.fact,n.cuts,n.kids.map (cK o),n.leaf⟩]:=by
     rw[List.take_succ_eq_append_getElem az,List.map_append,← hx,← Fg];rfl
    obtain⟨_,ma,mb,gM,hU⟩:=TQ;have tW:h'.get p=some (bx 187 [ma,mb] false 0):=by rw[he p hU.2.2.1];exact gM
    obtain⟨_,_,Al,ME⟩:=hU
    rcases ME with⟨e1,_,_⟩ |⟨l0,mm,mq,o1,o2,m1,mq1,m2,mq2,mq3,e1,gmm,e2,Ej⟩
    ·rw[e1]at Cv;simp at Cv
    subst e2;have Ek:h'.get mq=some (bx 154 (L.flatMap Nd.cs) true 4):=by rw[he mq mq1];exact Ej
    have gD:=J5 L xN _ (aa Cv);rw[← hn]at gD;have gE:=A6 L;have uh:xN * 4+4≤(L.flatMap Nd.cs).length:=by omega
    have hox:∀hh,(aI o)[k]'hh=.int .i64 (xN:Int):=fun hh=>DC (by rw[aa az,← hx,UL]) hh;generalize L.flatMap Nd.cs=LL at Ek gD uh;simp only[Nd.cs]at gD;have f1:¬p=ax:=by omega
    have f2:¬q=ax:=by omega
    have f3:¬nx=ax:=by omega
    have f4:¬mq=ax:=by omega
    simp-implicitDefEqProofs[go_sem,t2,t27,t28,t29,az,nA,H4,tW,Ek,Cv,gD,uh,hox,aG];have tail:∀(vk:AV) (h2:Tr ABlk) (qT:Nat),True:=fun _ _ _=>trivial;clear tail;refine zRs false n.kids (by omega) _ _ _ (fun fV=>?_) fun fV g1 b ny1 c1 c2 c3 c4=>?_
    ·have Nt:n.kids.length=0:=by rw[fV];rfl
     simp-implicitDefEqProofs[go_sem,aB,aG];generalize xS:Tr.put _ ax (some (bx 154 [_,_,AV.fz 1 false [],_] false 0))=h2;obtain⟨vk,F2⟩:∃vk:AV,vk=.fz 1 false []:=⟨_,rfl⟩;have oO:∀a,a<ax→h2.get a=h'.get a:=by
      intro a ha;rw[← xS];simp(disch:=omega) [go_sem,lh]
     have g2:h2.get ax=some (bx 154 [.int .i64 n.fact,.fz 1 false (aI n.cuts),vk,.bool n.leaf] false 0):=by
      rw[← xS];simp[go_sem,F2]
     have Ma:Kh ax h2 (ax+1) vk n.kids:=.inl ⟨fV,F2⟩;clear xS;have Mg:ld o q nx ny p CL h2:=hF.mono oO lb q2 qh;have tU:aA nx h h2:=fun a ha=>by rw[oO a (by omega)];exact he a ha
     refine bT (fun mm st=>∃tm h3 wh j vk cur,st=.mk tm h3 wh []∧mm=n.kids.length-j∧j≤n.kids.length∧tm.get 2=some (.ptr nx 0)∧tm.get 4=some (.ptr (nx+1) 0)∧tm.get 6=some (.ptr (nx+3) 0)∧tm.get 9=some (.ptr (ny+1) 0)∧tm.get 27=some (.sl q 0 o.length 0 true)∧tm.get 28=some (.int .i64 (o.length:Int))∧tm.get 29=some (.int .i64 (k:Int))∧tm.get 10=some (.int .i64 (k:Int))∧tm.get 12=some (.ptr ax 0)∧tm.get 48=some (.int .i64 (n.kids.length:Int))∧tm.get 49=some (.int .i64 (j:Int))∧
      ld o q nx ny p CL h3∧aA nx h h3∧ax<wh∧h3.get ax=some (bx 154 [.int .i64 n.fact,.fz 1 false (aI n.cuts),vk,.bool n.leaf] false 0)∧
      Kh ax h3 wh vk cur∧RowKit.Hid (cur=(n.kids.take j).map (cK o)++n.kids.drop j)) ⟨n.kids.length,_,_,_,0,vk,n.kids,rfl,by simp,by simp,?_⟩ ?_
     ·simp-implicitDefEqProofs[go_sem,t2,t4,t6,t9,t27,t28,t29,Nt];exact⟨Mg,tU,g2,Ma,Lib.hid trivial⟩
     ·rintro mm2 uy ⟨tm,h3,wh,j,vk,cur,rfl,rfl,hj,t2,t4,t6,t9,t27,t28,t29,t10,t12,t48,t49,rV,qI,Cm,g3,dT,hv⟩ J2 nY
      obtain⟨vt,LM,Em,Ei,LV,LR,xB⟩:=rV;have rV:ld o q nx ny p CL h3:=⟨vt,LM,Em,Ei,LV,LR,xB⟩
      by_cases cg:j<n.kids.length
      ·refine bt aE _ ?_;have aX:cur.length=n.kids.length:=by rw[hv.out];simp;omega
       rcases dT with⟨jJ,_⟩ |⟨_,b,b1,b2,rfl,gb⟩
       ·rw[jJ]at aX;simp at aX;omega
       have zY:((n.kids.take j).map (cK o)).length=j:=by simp;omega
       have qK:cur[j]?=some n.kids[j]:=by
        rw[hv.out,List.getElem?_append_right (by omega),zY,Nat.sub_self,List.getElem?_drop,Nat.add_zero,aa cg]
       have EU:=DC qK;have sM:=QL cur j (cK o n.kids[j]) (by omega);have fJ:cur.set j (cK o n.kids[j])=(n.kids.take (j+1)).map (cK o)++n.kids.drop (j+1):=by
        rw[hv.out,List.take_succ_eq_append_getElem cg,aj cg,List.set_append_right _ _ (by omega),zY,Nat.sub_self,List.map_append,List.set_cons_zero,List.append_assoc];rfl
       have HV:=Lib.hid fJ;clear fJ;have xW:j<cur.length:=by omega
       have zN:j+1≤cur.length:=by omega
       rw[← aX]at cg;rw[← aX]at t48;have k1:¬ax=b:=by omega
       have k2:¬b=ax:=by omega
       generalize hy:n.kids[j]=y at EU sM HV;simp-implicitDefEqProofs[go_sem,t48,t49,cg];refine ik mixed aE eO [11] [] [] (by kernel_rfl) ?_;simp-implicitDefEqProofs[go_sem,t6,t12,t49,cg,zN,g3,gb,Em,Ei,EU,sM];refine nY (n.kids.length-(j+1)) _ (by omega) ⟨_,_,_,j+1,.sl b 0 cur.length 0 true,cur.set j (cK o y),rfl,rfl,by omega,?_⟩;simp-implicitDefEqProofs (disch:=omega) [go_sem,t2,t4,t6,t9,t27,t28,t29,t10,t12,t48,aY,aX,k1,g3];refine⟨rV.mono (m:=ax) (fun a ha=>by rw[Tr.get_put,if_neg (by omega)]) lb q2 qh,?_,Cm,.inr ⟨?_,b,b1,b2,by simp[aX],by simp[go_sem]⟩,Lib.hid (by rw[HV.out,List.map_take])⟩
       ·simp(disch:=omega)only[aL];exact qI
       ·intro e;have:=congrArg List.length e;simp at this;rw[this]at xW;simp at xW
      ·have zO:j=n.kids.length:=by omega
       have zC:cur=n.kids.map (cK o):=by
        rw[hv.out,ar (by omega),aq (by omega),List.append_nil]
       obtain⟨nd,fH⟩:∃nd:Nd,nd=⟨n.fact,n.cuts,n.kids.map (cK o),n.leaf⟩:=⟨_,rfl⟩;have B4:((o.take k).map (dN L o)).length=k:=by simp;omega
       have sO:aG CL (k * 4) nd.cs=((o.take (k+1)).map (dN L o)).flatMap Nd.cs++ko z4 (o.length-(k+1)):=by
        rw[dM,← fH,← H8,show o.length-k=(o.length-(k+1))+1 by omega];exact Y0 B4 (by rw[ye];rfl)
       have Mb:CL.length=o.length * 4:=by
        rw[← H8,List.length_append,A6,B4,Xo,ye];simp;omega
       have sk:k * 4+4≤CL.length:=by omega
       have NJ:nd.cs=[.int .i64 n.fact,.fz 1 false (aI n.cuts),.fz 1 false (aI cur),.bool n.leaf]:=by rw[fH,zC];rfl
       rw[NJ]at sO;have Ns:k * 4<CL.length:=by omega
       rcases dT with⟨jJ,rfl⟩ |⟨_,b,b1,b2,rfl,gb⟩
       ·obtain⟨h4,lE⟩:∃h4,h4=h3:=⟨_,rfl⟩;have g4:h4.get ax=some (bx 154 [.int .i64 n.fact,.fz 1 false (aI n.cuts),.fz 1 false (aI cur),.bool n.leaf] false 0):=by rw[lE,g3,jJ];rfl
        have rZ:∀a,a<ax→h4.get a=h3.get a:=fun a _=>by rw[lE]
        rw[← lE];have rW:ld o q nx ny p CL h4:=rV.mono (m:=ax) (fun a ha=>rZ a ha) lb q2 qh;have tV:aA nx h h4:=fun a ha=>by rw[rZ a (by omega)];exact qI a ha
        clear lE;obtain⟨rR,rP,rQ,rO,rT,nW,dS⟩:=rW;have rW:ld o q nx ny p CL h4:=⟨rR,rP,rQ,rO,rT,nW,dS⟩;refine bt aE _ ?_;have zQ:¬j<n.kids.length:=cg;simp-implicitDefEqProofs[go_sem,t9,t29,t10,t12,t48,t49,zQ,g4,nW,dS,az,sk,sO];refine hJ (o.length-(k+1)) _ (by omega) ⟨_,_,_,k+1,rfl,rfl,by omega,?_⟩;simp-implicitDefEqProofs (disch:=omega) [go_sem,t2,t4,t6,t9,t27,t28,aY];refine⟨⟨?_,?_,?_,?_,?_,?_,?_⟩,?_,by omega⟩
        ·rw[Tr.get_put,if_neg (by omega)];exact rR
        ·rw[Tr.get_put,if_neg (by omega)];exact rP
        ·rw[Tr.get_put,if_neg (by omega)];exact rQ
        ·rw[Tr.get_put,if_neg (by omega)];exact rO
        ·rw[Tr.get_put,if_neg (by omega)];exact rT
        ·rw[Tr.get_put,if_neg (by omega)];exact nW
        ·rw[Tr.get_put,if_pos rfl]
         try simp only[List.map_take]
        ·simp(disch:=omega)only[aL];exact tV
       ·obtain⟨h4,lE⟩:∃h4,h4=(jo h3 [b]).put ax (some (bx 154 [.int .i64 n.fact,.fz 1 false (aI n.cuts),.fz 1 false (aI cur),.bool n.leaf] false 0)):=⟨_,rfl⟩;have g4:h4.get ax=some (bx 154 [.int .i64 n.fact,.fz 1 false (aI n.cuts),.fz 1 false (aI cur),.bool n.leaf] false 0):=by rw[lE];simp[go_sem]
        have rZ:∀a,a<ax→h4.get a=h3.get a:=fun a ha=>by rw[lE,Tr.get_put,if_neg (by omega),oK (by simp;omega)]
        refine GG (fun a=>a∈[b]) (h':=h4) (tm':=tm) ?_ rI.refl ?_
        ·rw[lE];refine iy.put (iy.kill _) (by simp;omega) g3 (.cells _ _ _ _ _ _ fun a ha v bF=>?_);rw[fx]at bF ⊢
         rcases a with _ |_ |_ |_ |a
         ·simp at bF;subst bF;exact⟨_,rfl,.same _⟩
         ·simp at bF;subst bF;exact⟨_,rfl,.same _⟩
         ·simp at bF;subst bF;exact⟨_,rfl,zd (s:=cur) (r:=[]) (by simp) (by rw[List.append_nil];exact gb)⟩
         ·simp at bF;subst bF;exact⟨_,rfl,.same _⟩
         ·simp at bF
        have rW:ld o q nx ny p CL h4:=rV.mono (m:=ax) (fun a ha=>rZ a ha) lb q2 qh;have tV:aA nx h h4:=fun a ha=>by rw[rZ a (by omega)];exact qI a ha
        clear lE;obtain⟨rR,rP,rQ,rO,rT,nW,dS⟩:=rW;have rW:ld o q nx ny p CL h4:=⟨rR,rP,rQ,rO,rT,nW,dS⟩;refine bt aE _ ?_;have zQ:¬j<n.kids.length:=cg;simp-implicitDefEqProofs[go_sem,t9,t29,t10,t12,t48,t49,zQ,g4,nW,dS,az,sk,sO];refine hJ (o.length-(k+1)) _ (by omega) ⟨_,_,_,k+1,rfl,rfl,by omega,?_⟩;simp-implicitDefEqProofs (disch:=omega) [go_sem,t2,t4,t6,t9,t27,t28,aY];refine⟨⟨?_,?_,?_,?_,?_,?_,?_⟩,?_,by omega⟩
        ·rw[Tr.get_put,if_neg (by omega)];exact rR
        ·rw[Tr.get_put,if_neg (by omega)];exact rP
        ·rw[Tr.get_put,if_neg (by omega)];exact rQ
        ·rw[Tr.get_put,if_neg (by omega)];exact rO
        ·rw[Tr.get_put,if_neg (by omega)];exact rT
        ·rw[Tr.get_put,if_neg (by omega)];exact nW
        ·rw[Tr.get_put,if_pos rfl]
         try simp only[List.map_take]
        ·simp(disch:=omega)only[aL];exact tV
    ·have gnx:g1.get ax=some (bx 154 [.int .i64 n.fact,.fz 1 false (aI n.cuts),.fz 1 false (aI n.kids),.bool n.leaf] false 0):=by
      rw[c1 ax (by omega)];simp[go_sem]
     simp-implicitDefEqProofs[go_sem,aB,gnx,aG];generalize xS:Tr.put _ ax (some (bx 154 [_,_,AV.sl b 0 _ 0 true,_] false 0))=h2;obtain⟨vk,F2⟩:∃vk:AV,vk=.sl b 0 n.kids.length 0 true:=⟨_,rfl⟩;have oO:∀a,a<ax→h2.get a=h'.get a:=by
      intro a ha;rw[← xS,Tr.get_put,if_neg (by omega),c1 a (by omega)];simp(disch:=omega) [go_sem,lh]
     have g2:h2.get ax=some (bx 154 [.int .i64 n.fact,.fz 1 false (aI n.cuts),vk,.bool n.leaf] false 0):=by
      rw[← xS];simp[go_sem,F2]
     have Ma:Kh ax h2 ny1 vk n.kids:=.inr ⟨fV,b,by omega,c3,F2,by rw[← xS];simp[go_sem,show ¬b=ax by omega,c4]⟩;clear xS;have Mg:ld o q nx ny p CL h2:=hF.mono oO lb q2 qh;have tU:aA nx h h2:=fun a ha=>by rw[oO a (by omega)];exact he a ha
     refine bT (fun mm st=>∃tm h3 wh j vk cur,st=.mk tm h3 wh []∧mm=n.kids.length-j∧j≤n.kids.length∧tm.get 2=some (.ptr nx 0)∧tm.get 4=some (.ptr (nx+1) 0)∧tm.get 6=some (.ptr (nx+3) 0)∧tm.get 9=some (.ptr (ny+1) 0)∧tm.get 27=some (.sl q 0 o.length 0 true)∧tm.get 28=some (.int .i64 (o.length:Int))∧tm.get 29=some (.int .i64 (k:Int))∧tm.get 10=some (.int .i64 (k:Int))∧tm.get 12=some (.ptr ax 0)∧tm.get 48=some (.int .i64 (n.kids.length:Int))∧tm.get 49=some (.int .i64 (j:Int))∧
      ld o q nx ny p CL h3∧aA nx h h3∧ax<wh∧h3.get ax=some (bx 154 [.int .i64 n.fact,.fz 1 false (aI n.cuts),vk,.bool n.leaf] false 0)∧
      Kh ax h3 wh vk cur∧RowKit.Hid (cur=(n.kids.take j).map (cK o)++n.kids.drop j)) ⟨n.kids.length,_,_,_,0,vk,n.kids,rfl,by simp,by simp,?_⟩ ?_
     ·simp-implicitDefEqProofs[go_sem,t2,t4,t6,t9,t27,t28,t29];exact⟨Mg,tU,by omega,g2,Ma,Lib.hid trivial⟩
     ·rintro mm2 uy ⟨tm,h3,wh,j,vk,cur,rfl,rfl,hj,t2,t4,t6,t9,t27,t28,t29,t10,t12,t48,t49,rV,qI,Cm,g3,dT,hv⟩ J2 nY
      obtain⟨vt,LM,Em,Ei,LV,LR,xB⟩:=rV;have rV:ld o q nx ny p CL h3:=⟨vt,LM,Em,Ei,LV,LR,xB⟩
      by_cases cg:j<n.kids.length
      ·refine bt aE _ ?_;have aX:cur.length=n.kids.length:=by rw[hv.out];simp;omega
       rcases dT with⟨jJ,_⟩ |⟨_,b,b1,b2,rfl,gb⟩
       ·rw[jJ]at aX;simp at aX;omega
       have zY:((n.kids.take j).map (cK o)).length=j:=by simp;omega
       have qK:cur[j]?=some n.kids[j]:=by
        rw[hv.out,List.getElem?_append_right (by omega),zY,Nat.sub_self,List.getElem?_drop,Nat.add_zero,aa cg]
       have EU:=DC qK;have sM:=QL cur j (cK o n.kids[j]) (by omega);have fJ:cur.set j (cK o n.kids[j])=(n.kids.take (j+1)).map (cK o)++n.kids.drop (j+1):=by
        rw[hv.out,List.take_succ_eq_append_getElem cg,aj cg,List.set_append_right _ _ (by omega),zY,Nat.sub_self,List.map_append,List.set_cons_zero,List.append_assoc];rfl
       have HV:=Lib.hid fJ;clear fJ;have xW:j<cur.length:=by omega
       have zN:j+1≤cur.length:=by omega
       rw[← aX]at cg;rw[← aX]at t48;have k1:¬ax=b:=by omega
       have k2:¬b=ax:=by omega
       generalize hy:n.kids[j]=y at EU sM HV;simp-implicitDefEqProofs[go_sem,t48,t49,cg];refine ik mixed aE eO [11] [] [] (by kernel_rfl) ?_;simp-implicitDefEqProofs[go_sem,t6,t12,t49,cg,zN,g3,gb,Em,Ei,EU,sM];refine nY (n.kids.length-(j+1)) _ (by omega) ⟨_,_,_,j+1,.sl b 0 cur.length 0 true,cur.set j (cK o y),rfl,rfl,by omega,?_⟩;simp-implicitDefEqProofs (disch:=omega) [go_sem,t2,t4,t6,t9,t27,t28,t29,t10,t12,t48,aY,aX,k1,g3];refine⟨rV.mono (m:=ax) (fun a ha=>by rw[Tr.get_put,if_neg (by omega)]) lb q2 qh,?_,Cm,.inr ⟨?_,b,b1,b2,by simp[aX],by simp[go_sem]⟩,Lib.hid (by rw[HV.out,List.map_take])⟩
       ·simp(disch:=omega)only[aL];exact qI
       ·intro e;have:=congrArg List.length e;simp at this;rw[this]at xW;simp at xW
      ·have zO:j=n.kids.length:=by omega
       have zC:cur=n.kids.map (cK o):=by
        rw[hv.out,ar (by omega),aq (by omega),List.append_nil]
       obtain⟨nd,fH⟩:∃nd:Nd,nd=⟨n.fact,n.cuts,n.kids.map (cK o),n.leaf⟩:=⟨_,rfl⟩;have B4:((o.take k).map (dN L o)).length=k:=by simp;omega
       have sO:aG CL (k * 4) nd.cs=((o.take (k+1)).map (dN L o)).flatMap Nd.cs++ko z4 (o.length-(k+1)):=by
        rw[dM,← fH,← H8,show o.length-k=(o.length-(k+1))+1 by omega];exact Y0 B4 (by rw[ye];rfl)
       have Mb:CL.length=o.length * 4:=by
        rw[← H8,List.length_append,A6,B4,Xo,ye];simp;omega
       have sk:k * 4+4≤CL.length:=by omega
       have NJ:nd.cs=[.int .i64 n.fact,.fz 1 false (aI n.cuts),.fz 1 false (aI cur),.bool n.leaf]:=by rw[fH,zC];rfl
       rw[NJ]at sO;have Ns:k * 4<CL.length:=by omega
       rcases dT with⟨jJ,rfl⟩ |⟨_,b,b1,b2,rfl,gb⟩
       ·obtain⟨h4,lE⟩:∃h4,h4=h3:=⟨_,rfl⟩;have g4:h4.get ax=some (bx 154 [.int .i64 n.fact,.fz 1 false (aI n.cuts),.fz 1 false (aI cur),.bool n.leaf] false 0):=by rw[lE,g3,jJ];rfl
        have rZ:∀a,a<ax→h4.get a=h3.get a:=fun a _=>by rw[lE]
        rw[← lE];have rW:ld o q nx ny p CL h4:=rV.mono (m:=ax) (fun a ha=>rZ a ha) lb q2 qh;have tV:aA nx h h4:=fun a ha=>by rw[rZ a (by omega)];exact qI a ha
        clear lE;obtain⟨rR,rP,rQ,rO,rT,nW,dS⟩:=rW;have rW:ld o q nx ny p CL h4:=⟨rR,rP,rQ,rO,rT,nW,dS⟩;refine bt aE _ ?_;have zQ:¬j<n.kids.length:=cg;simp-implicitDefEqProofs[go_sem,t9,t29,t10,t12,t48,t49,zQ,g4,nW,dS,az,sk,sO];refine hJ (o.length-(k+1)) _ (by omega) ⟨_,_,_,k+1,rfl,rfl,by omega,?_⟩;simp-implicitDefEqProofs (disch:=omega) [go_sem,t2,t4,t6,t9,t27,t28,aY];refine⟨⟨?_,?_,?_,?_,?_,?_,?_⟩,?_,by omega⟩
        ·rw[Tr.get_put,if_neg (by omega)];exact rR
        ·rw[Tr.get_put,if_neg (by omega)];exact rP
        ·rw[Tr.get_put,if_neg (by omega)];exact rQ
        ·rw[Tr.get_put,if_neg (by omega)];exact rO
        ·rw[Tr.get_put,if_neg (by omega)];exact rT
        ·rw[Tr.get_put,if_neg (by omega)];exact nW
        ·rw[Tr.get_put,if_pos rfl]
         try simp only[List.map_take]
        ·simp(disch:=omega)only[aL];exact tV
       ·obtain⟨h4,lE⟩:∃h4,h4=(jo h3 [b]).put ax (some (bx 154 [.int .i64 n.fact,.fz 1 false (aI n.cuts),.fz 1 false (aI cur),.bool n.leaf] false 0)):=⟨_,rfl⟩;have g4:h4.get ax=some (bx 154 [.int .i64 n.fact,.fz 1 false (aI n.cuts),.fz 1 false (aI cur),.bool n.leaf] false 0):=by rw[lE];simp[go_sem]
        have rZ:∀a,a<ax→h4.get a=h3.get a:=fun a ha=>by rw[lE,Tr.get_put,if_neg (by omega),oK (by simp;omega)]
        refine GG (fun a=>a∈[b]) (h':=h4) (tm':=tm) ?_ rI.refl ?_
        ·rw[lE];refine iy.put (iy.kill _) (by simp;omega) g3 (.cells _ _ _ _ _ _ fun a ha v bF=>?_);rw[fx]at bF ⊢
         rcases a with _ |_ |_ |_ |a
         ·simp at bF;subst bF;exact⟨_,rfl,.same _⟩
         ·simp at bF;subst bF;exact⟨_,rfl,.same _⟩
         ·simp at bF;subst bF;exact⟨_,rfl,zd (s:=cur) (r:=[]) (by simp) (by rw[List.append_nil];exact gb)⟩
         ·simp at bF;subst bF;exact⟨_,rfl,.same _⟩
         ·simp at bF
        have rW:ld o q nx ny p CL h4:=rV.mono (m:=ax) (fun a ha=>rZ a ha) lb q2 qh;have tV:aA nx h h4:=fun a ha=>by rw[rZ a (by omega)];exact qI a ha
        clear lE;obtain⟨rR,rP,rQ,rO,rT,nW,dS⟩:=rW;have rW:ld o q nx ny p CL h4:=⟨rR,rP,rQ,rO,rT,nW,dS⟩;refine bt aE _ ?_;have zQ:¬j<n.kids.length:=cg;simp-implicitDefEqProofs[go_sem,t9,t29,t10,t12,t48,t49,zQ,g4,nW,dS,az,sk,sO];refine hJ (o.length-(k+1)) _ (by omega) ⟨_,_,_,k+1,rfl,rfl,by omega,?_⟩;simp-implicitDefEqProofs (disch:=omega) [go_sem,t2,t4,t6,t9,t27,t28,aY];refine⟨⟨?_,?_,?_,?_,?_,?_,?_⟩,?_,by omega⟩
        ·rw[Tr.get_put,if_neg (by omega)];exact rR
        ·rw[Tr.get_put,if_neg (by omega)];exact rP
        ·rw[Tr.get_put,if_neg (by omega)];exact rQ
        ·rw[Tr.get_put,if_neg (by omega)];exact rO
        ·rw[Tr.get_put,if_neg (by omega)];exact rT
        ·rw[Tr.get_put,if_neg (by omega)];exact nW
        ·rw[Tr.get_put,if_pos rfl]
         try simp only[List.map_take]
        ·simp(disch:=omega)only[aL];exact tV
   ·have fq:k=o.length:=by omega
    subst fq;simp-implicitDefEqProofs[go_sem,t4,t9,t28,t29,Tm,To,aG];refine hR _ _ _ (.tup [.agg [.fz 4 false (bK (o.map (dN L o)))],.int .i64 0]) ?_ ?_ (.same _)
    ·simp(disch:=omega)only[aL];exact he
    ·refine .tup _ _ (.cons _ _ _ _ (.agg _ _ (.cons _ _ _ _ ?_ .nil)) (.cons _ _ _ _ (.int _ _) .nil));have hlen:o.length=(o.map (dN L o)).length:=by simp
     have zv:(h'.put (nx+1) (some (bx 92 [.sl ny 0 o.length o.length false] false 0))).get ny=some (bx 154 ((o.map (dN L o)).flatMap Nd.cs) false 0):=by
      rw[List.take_length,Nat.sub_self,zzh,List.append_nil]at H6;simp(disch:=omega) [go_sem,show ¬ny=nx+1 by omega,H6]
     have:=Te (nx:=nx) (s:=o.map (dN L o)) (cp:=o.length) (op:=false) (by omega) zv;rw[← hlen]at this;exact this
theorem zHp {P : Program} {f : FuncId} {fn : Func} {e : Array Value → Sem Value} (hf : P.funcs[f]? = some fn) (hn : (fn.name == "runtime.NumGoroutine") = false) (hb : fn.body = none) (h1 : Extern.findNext fn = none) (h2 : Extern.find fn = some e) : ∀ A w, (callFunc f A).run P w = ((e A).run P w).andThen fun v w' => .ok (.value v) w' := by
 intro A w
 have dK : ¬ fn.name = "runtime.NumGoroutine" := fun e => by rw [e] at hn; simp at hn
 simp only[callFunc,Sem.run_bind,run_program,Result.andThen,hf,dK,hb,h1,h2,mark,Sem.run,Option.isNone_none,if_true,beq_iff_eq,if_false];cases (e A).run P w <;> rfl
theorem zPe (v:AV):ay Tryz.prog cx 275 [v] v:=by
 intro h nx σ w A hk hA;simp only[aC]at hA;obtain⟨V,L,rfl,hV,rfl⟩:=hA;unfold CR;rw[zHp (e:=Extern.AbiNoEscape.same) (fn:=Tryz.f275) (by kernel_rfl) (by kernel_rfl) (by kernel_rfl) (by kernel_rfl) (by kernel_rfl)];exact⟨σ,v,h,nx,hV,.refl hk,rfl,rfl,rfl⟩
theorem zIo (b:UInt8):uD (.int .u8 (b.toNat:Int))=some b.toNat:=by
 have h:b.toNat<256:=b.toNat_lt;have h2:Nat.ble b.toNat 255=true:=Nat.ble_eq_true_of_le (by omega);show (match Nat.ble b.toNat 255 with |true=>some b.toNat |false=>none)=_;rw[h2]
theorem zyg:∀l:List UInt8,∃z,pF (bM l)=some z
 |[]=>⟨0,rfl⟩
 |b::l=>by
  obtain⟨z,hz⟩:=zyg l;refine⟨b.toNat+256 * z,?_⟩;rw[show bM (b::l)=.int .u8 (b.toNat:Int)::bM l from rfl,Qx,zIo,hz];rfl
theorem zzd (σ:Sg):∀l:List UInt8,aC σ (bM l) (l.map fun b=>Value.int .u8 (b.toNat:Int))
 |[]=>by simp only[bM,List.map_nil,aC]
 |b::l=>by
  rw[show bM (b::l)=.int .u8 (b.toNat:Int)::bM l from rfl];simp only[aC,List.map_cons];exact⟨_,_,rfl,by simp only[av],zzd σ l⟩
theorem zLg {l:List UInt8}{z:Nat}(hz:pF (bM l)=some z):bE l.length z=⟨l.toArray⟩:=by
 obtain⟨_,ns,h1,h2⟩:=J8 (zzd ⟨fun _=>none,fun _=>0,fun _=>.nilFunc,fun _=>none⟩ l) hz;rw[tD]at h2;unfold bE;rw[← h2];have h3:ns=l.map fun b=>(b.toNat:Int):=by
  have:=congrArg (List.map fun v=>match v with |Value.int _ n=>n |_=>0) h1;simpa[Function.comp_def]using this.symm
 rw[h3,List.map_map]
 congr 2
 have:(fun z=>UInt8.ofNat (Int.toNat z)) ∘ (fun b:UInt8=>(b.toNat:Int))=id:=by
  funext b
  simp
 rw[this,List.map_id]
def JQ (B:Option ABlk) (e i n:Nat)(h:Tr ABlk) (nx:Nat):R:=match B with
 |some (.cells e' m c _ _)=>match Nat.beq e' e && Nat.beq 0 0 && Nat.ble n m && Nat.ble n 4611686018427387904 with
  |false=>.fail
  |true=>match iI c n 0 with
   |none=>.fail
   |some l=>match pF l with
    |none=>.fail
    |some z=>.val (.str n z) (h.put i none) nx
 |_=>.fail
@[go_sem] theorem ycf (e a b:Nat)(c:Option AV) (x:Nat)(y:Bool)(fs:List (Nat×Nat×Bool)) (i n:Nat)(h:Tr ABlk) (nx:Nat)(hn:n≠0):
  Hd (.mk (.pointer e) a b c ((x,1,y)::fs)) (.ptr i 0) (.int .i64 (n:Int)) h nx=JQ (h.get i) e i n h nx:=by
 have h0:Nat.beq n 0=false:=by cases n;exact absurd rfl hn;rfl
 show (match Nat.beq n 0 with
    |true=>R.val (.str 0 0) h nx
    |false=>match h.get i with
      |some (.cells e' m c _ _)=>match Nat.beq e' e && Nat.beq 0 0 && Nat.ble n m && Nat.ble n 4611686018427387904 with
       |false=>.fail
       |true=>match iI c n 0 with
        |none=>.fail
        |some l=>match pF l with
         |none=>.fail
         |some z=>fN z fun z=>h.putK none i fun h'=>.val (.str n z) h' nx
      |_=>.fail)=_
 rw[h0];unfold JQ;cases h.get i with
 |none=>rfl
 |some B=>
  cases B <;> try rfl
  simp only[fN_eq,Tr.putK_eq]
@[go_sem] theorem zXh (t e i n z:Nat)(L:List AV)(opn:Bool) (esz:Nat)(h:Tr ABlk) (nx:Nat)(ht:t=e)(hn:n=L.length)(hz:pF L=some z)(hb:n≤4611686018427387904):JQ (some (bx t L opn esz)) e i n h nx=.val (.str n z) (h.put i none) nx:=by
 subst ht;subst hn;have e1:=JP L L.length 0 (by omega);rw[List.drop_zero,List.take_length]at e1;simp[JQ,bx,iL,hb,e1,hz]
theorem zLl:cx.ft.get 253=some Tryz.f253:=aT (by decide) (by kernel_rfl)
theorem zIr:cx.ft.get 196=some Tryz.f196:=aT (by decide) (by kernel_rfl)
theorem zUj:cx.ft.get 197=some Tryz.f197:=aT (by decide) (by kernel_rfl)
theorem zRt:cx.ft.get 142=some Tryz.f142:=aT (by decide) (by kernel_rfl)
def rm (h:Tr ABlk) (nx a q:Nat)(l:List UInt8):Prop:=a<nx∧((l=[]∧h.get a=some (bx 192 [.ptr0,.sl0] false 0))∨(l≠[]∧q<nx∧q≠a∧h.get a=some (bx 192 [.ptr a 0,.sl q 0 l.length 0 true] false 0)∧h.get q=some (bx 5 (bM l) true 1)))
theorem zG1:cx.lies 192 1 0 192=true:=by kernel_rfl
def ON (B:Option ABlk) (i o:Nat)(h:Tr ABlk) (nx:Nat):R:=match B with
 |some (.cells _ n _ _ _)=>match Nat.ble (Nat.succ o) n with
  |true=>.val (.ptr i o) h nx
  |false=>.fail
 |_=>.fail
@[go_sem] theorem zWz (e a b:Nat)(c:Option AV) (x s:Nat)(y:Bool)(fs:List (Nat×Nat×Bool)) (i o:Nat)(h:Tr ABlk) (nx:Nat)(hs:s≠0):Dh (.mk (.pointer e) a b c ((x,s,y)::fs)) (.ptr i o) h nx=ON (h.get i) i o h nx:=by
 have h0:Nat.beq s 0=false:=by cases s;exact absurd rfl hs;rfl
 simp only[Dh,h0];rfl
@[go_sem] theorem zVo (i o t esz:Nat)(l:List AV)(opn:Bool)(h:Tr ABlk) (nx:Nat)(ho:o<l.length):ON (some (bx t l opn esz)) i o h nx=.val (.ptr i o) h nx:=by
 simp[ON,bx,iL,Nat.succ_le_of_lt ho]
def QS (c:Cx)(B:Option ABlk) (u i o:Nat)(h:Tr ABlk) (nx:Nat):R:=match B with
 |some (.cells e n _ false _)=>match c.tt.get e with
  |some (.mk _ se _ _ _)=>match c.lies e (Nat.div n se) o u with
   |true=>.val (.ptr i o) h nx
   |false=>.fail
  |none=>.fail
 |_=>.fail
@[go_sem] theorem zY1 (c:Cx) (d u a b:Nat)(z:Option AV)(x:Nat×Nat×Bool)(fs:List (Nat×Nat×Bool)) (i o:Nat)(h:Tr ABlk) (nx:Nat):G9 c d (.mk (.pointer u) a b z (x::fs)) (.ptr i o) h nx=QS c (h.get i) u i o h nx:=rfl
@[go_sem] theorem ybe (i:Nat)(x y:AV) (esz:Nat)(h:Tr ABlk) (nx:Nat):QS cx (some (bx 192 [x,y] false esz)) 192 i 0 h nx=.val (.ptr i 0) h nx:=by
 have h1:=zNc;simp only[QS,bx,h1];have h2:Nat.div [x,y].length 2=1:=by show Nat.div 2 2=1;decide
 rw[h2,zG1]
@[go_sem] theorem ybu (i o l:Nat)(h:Tr ABlk) (nx:Nat)(hl:l≠0):HL [.sl i o l 0 true] h nx=.val (.ptr i o) h nx:=by
 have:Nat.ble 1 l=true:=Nat.ble_eq_true_of_le (by omega);show (match Nat.ble 1 l with |true=>R.val (.ptr i o) h nx |false=>.fail)=_;rw[this]
@[go_sem] theorem ybd (c:Cx)(t u:TypeId)(a b:AV)(h:Tr ABlk) (nx:Nat):HO c (List.toArray [t,u]) [a,b] h nx=bR (c.tt.get t) fun ti=>Hd ti a b h nx:=rfl
theorem R7 (a:Nat)(x y:AV)(hx:x=.ptr0∨x=.ptr a 0)(h:Tr ABlk) (nx:Nat)(ha:h.get a=some (bx 192 [x,y] false 0))(R:AV→Tr ABlk→Nat→Prop)(hR:∀g,g.get a=some (bx 192 [.ptr a 0,y] false 0)→(∀k,k≠a→g.get k=h.get k)→R (.tup []) g nx):aN Tryz.prog cx 253 [.ptr a 0] h nx R:=by
 refine aV (sz:=20) (rs:=[]) aE zLl rfl rfl rfl (by simp) ?_
 rcases hx with rfl |rfl
 ·simp-implicitDefEqProofs[go_sem,ha];refine ay.use (zPe _) ?_;simp-implicitDefEqProofs[go_sem,aB,ha,aG];exact hR _ (by simp[go_sem]) (fun k hk=>by simp[go_sem,hk])
 ·simp-implicitDefEqProofs[go_sem,ha];exact hR _ ha (fun k hk=>rfl)
theorem zS4 (h:Tr ABlk) (nx a q:Nat)(l:List UInt8)(s:ByteArray)(hs:s.size≠0)(hl:l.length+s.size≤16777216)(hB:rm h nx a q l)(R:AV→Tr ABlk→Nat→Prop)
  (hR:∀v g ny q',nx≤ny→(∀k,k<nx→k≠a→k≠q→g.get k=h.get k)→nx≤q'→rm g ny a q' (l++s.data.toList)→R v g ny):aN Tryz.prog cx 196 [.ptr a 0,.bs s] h nx R:=by
 refine aV (sz:=19) (rs:=[.tmp 4,.tmp 5]) aE zIr rfl rfl rfl (by simp) ?_;have fo:=uN s.data.toList;have kP:s.data.toList.length=s.size:=by simp
 have l9:s.data.toList≠[]:=fun e=>hs (by rw[← kP,e];rfl);obtain⟨Ik,⟨rfl,ga⟩ |⟨h1,qk,Cp,ga,gq⟩⟩:=hB
 ·simp only[List.length_nil,Nat.zero_add]at hl;simp-implicitDefEqProofs[go_sem];refine R7 a _ _ (.inl rfl) h nx ga _ fun g g1 g2=>?_;have n1:¬a=nx:=by omega
  simp-implicitDefEqProofs[go_sem,aB,g1,fo,hs,hl,n1,aG];refine hR _ _ _ nx (by omega) (fun k k1 k2 k3=>?_) (by omega) ⟨by omega,.inr ⟨by simpa using l9,by omega,by omega,?_,?_⟩⟩
  ·simp[go_sem,k2,show ¬k=nx by omega];exact g2 k k2
  ·simp[go_sem]
  ·simp[go_sem,show ¬nx=a by omega]
 ·simp-implicitDefEqProofs[go_sem];refine R7 a _ _ (.inr rfl) h nx ga _ fun g g1 g2=>?_;have n1:¬a=nx:=by omega
  have n2:¬a=q:=fun e=>Cp e.symm;have nA:g.get q=some (bx 5 (bM l) true 1):=by rw[g2 q Cp];exact gq
  have tR:=uN l;simp-implicitDefEqProofs[go_sem,aB,g1,nA,fo,hl,n1,n2,aG];refine hR _ _ _ nx (by omega) (fun k k1 k2 k3=>?_) (by omega) ⟨by omega,.inr ⟨by simp[h1],by omega,by omega,?_,?_⟩⟩
  ·simp[go_sem,k2,k3,show ¬k=nx by omega];exact g2 k k2
  ·simp[go_sem]
  ·simp[go_sem,show ¬nx=a by omega,wB]
theorem zJo (h:Tr ABlk) (nx a q:Nat)(l:List UInt8)(x:UInt8)(hl:l.length+1≤16777216)(aQ:l≠[])(hB:rm h nx a q l)(R:AV→Tr ABlk→Nat→Prop)
  (hR:∀v g ny q',nx≤ny→(∀k,k<nx→k≠a→k≠q→g.get k=h.get k)→nx≤q'→rm g ny a q' (l++[x])→R v g ny):aN Tryz.prog cx 197 [.ptr a 0,.int .u8 (x.toNat:Int)] h nx R:=by
 refine aV (sz:=17) (rs:=[.tmp 4]) aE zUj rfl rfl rfl (by simp) ?_;obtain⟨Ik,⟨e,ga⟩ |⟨h1,qk,Cp,ga,gq⟩⟩:=hB
 ·exact absurd e aQ
 ·simp-implicitDefEqProofs[go_sem];refine R7 a _ _ (.inr rfl) h nx ga _ fun g g1 g2=>?_;have n1:¬a=nx:=by omega
  have n2:¬a=q:=fun e=>Cp e.symm;have n3:¬q=nx:=by omega
  have n4:¬a=nx+1:=by omega
  have nA:g.get q=some (bx 5 (bM l) true 1):=by rw[g2 q Cp];exact gq
  have tR:=uN l;simp-implicitDefEqProofs[go_sem,aB,g1,nA,hl,n1,n2,n3,n4,aG];refine hR _ _ _ (nx+1) (by omega) (fun k k1 k2 k3=>?_) (by omega) ⟨by omega,.inr ⟨by simp,by omega,by omega,?_,?_⟩⟩
  ·simp[go_sem,k2,k3,show ¬k=nx by omega,show ¬k=nx+1 by omega];exact g2 k k2
  ·simp[go_sem]
  ·simp[go_sem,show ¬nx+1=a by omega,wB];rfl
@[go_sem] theorem yav (callee:Callee)(x:Operand)(l:List Operand)(gO:Array TypeId):oN (.call ⟨callee,List.toArray (x::l),gO⟩)=some x:=rfl
@[go_sem] theorem zXr (i o l c:Nat)(b:Bool)(h h':Tr ABlk):fM (some (.sl i o l c b)) h h'=(h'.get i=h.get i):=rfl
theorem zSx (h:Tr ABlk) (nx a q:Nat)(l:List UInt8)(aQ:l≠[])(hl:l.length≤16777216)(hB:rm h nx a q l)(R:AV→Tr ABlk→Nat→Prop)(hR:R (.bs ⟨l.toArray⟩) (h.put q none) nx):aN Tryz.prog cx 142 [.ptr a 0] h nx R:=by
 obtain⟨Ik,⟨e,ga⟩ |⟨h1,qk,Cp,ga,gq⟩⟩:=hB
 ·exact absurd e aQ
 obtain⟨z,hz⟩:=zyg l;have fe:=zLg hz;refine aN.wkR (R:=fun v g ny=>v=.str l.length z∧g=h.put q none∧ny=nx) ?_ ?_
 ·refine aV (sz:=14) (rs:=[.tmp 2]) aE zRt rfl rfl rfl (by simp) ?_;have l7:l.length≠0:=fun e=>aQ (au e);have jc:l.length≤4611686018427387904:=by omega
  simp-implicitDefEqProofs[go_sem];refine ik mixed aE eO [4,10] [] [(8,4),(9,4)] (by kernel_rfl) ?_;simp-implicitDefEqProofs[go_sem,ga,gq,hz,l7,jc]
 ·rintro v g ny ⟨rfl,rfl,rfl⟩
  refine⟨.bs (bE l.length z),.str _ _,?_⟩;rw[fe];exact hR
end
end Go.Ev
