/- Texts. -/
import Derived.Test.YtkdnmldmffkkoaaGreatDoorP07
set_option linter.all false
set_option maxRecDepth 100000
set_option maxHeartbeats 8000000
namespace Go.Ev
noncomputable section
section
open Go.Proofs Go.RowKit
attribute [-go_sem] dN bX fC
def zOe {P:Program}{c:Cx}(hc:CxOk P c){fid:FuncId}{fn:Func}(bO:c.ft.get fid=some fn){es e sz:Nat}{full:Bool}{h:Tr ABlk}{nx:Nat}{R:AV→Tr ABlk→Nat→Prop}
  (h1:∀(n cp:Nat) (w:World),Calls P fid #[.slice none n cp] w fun e w'=>e=.returned (.slice none 0 0)∧w'=w)
  (h2:∀(a:Addr) (cp:Nat) (w:World),Calls P fid #[.slice (some a) 0 cp] w fun q w'=>∃v',q=.returned v'∧w'.ownsRow w.heap.size e sz v' 0 []∧v'≠.slice none 0 0∧Below w.heap.size w w')
  (hR:R (.fz es false []) h nx):bf P c fid [.fz es full []] h nx R:=by
 intro σ w A hk hA;simp only[aC,av]at hA;obtain⟨V,L,rfl,⟨a,cap,rfl,_,_,ha,_⟩,rfl⟩:=hA;refine Hw hc bO ?_;cases a with
 |none=>
  refine(h1 0 cap w).mono ?_
  rintro q w' ⟨rfl,rfl⟩
  exact⟨σ,.fz es false [],h,nx,by simp only[av];exact⟨none,0,rfl,by simp,by simp,by simp,by simp⟩,.refl hk,hR⟩
 |some a=>
  refine(h2 a cap w).mono ?_
  rintro q w' ⟨v',rfl,ho,aT,hb⟩
  refine⟨σ,.fz es false [],h,nx,?_,Post.same hk hb.os hb.tape hb.output hb.size hb.block,hR⟩;obtain⟨_,⟨e1,_⟩ |⟨g,cp,cur,e1,_⟩⟩:=ho
  ·exact absurd e1 aT
  ·simp only[av];exact⟨_,cp,e1,by simp,by simp,by simp,by simp⟩
def ZF (l:List Int):(aG l).flatMap AV.cells=aG l:=by
 induction l with
 |nil=>rfl
 |cons x l ih=>
  rw[show aG (x::l)=.int .i64 x::aG l from rfl,List.flatMap_cons,ih];rfl
def zRs (u:Bool)(l:List Int)(hl:l.length≤16000000)(h:Tr ABlk) (nx:Nat)(R:AV→Tr ABlk→Nat→Prop)(Ft:l=[]→R (.fz 1 false []) h nx)
  (fE:l≠[]→∀g q ny,az nx h g→nx≤q→q<ny→g.get q=some (bx 3 (aG l) true 1)→R (.sl q 0 l.length 0 true) g ny):di 207 [.fz 1 u (aG l)] h nx R:=by
 cases l with
 |nil=>exact zOe iQ XM (fun n cp w=>Any.slices_Clone_int_nil Tryz.lays2n15 n cp w) (fun a cp w=>Any.slices_Clone_int_zero Tryz.lays2n15 a cp w) (Ft rfl)
 |cons x xs=>
  have hc:=ZF (x::xs);have hlen:=Kk xs;refine zJ9 u (.int .i64 x) (aG xs) (by rw[show (AV.int .i64 x)::aG xs=aG (x::xs) from rfl,hc];exact vU _) (by rw[hlen];simp at hl;omega) h nx R fun g q ny e1 e2 e3 e4=>?_;rw[show (AV.int .i64 x)::aG xs=aG (x::xs) from rfl,hc]at e4;have:=fE (by simp) g q ny e1 e2 e3 e4;rw[hlen];exact this
def cU (o:List Int) (x:Int):Int:=if x∈o then (nh o x:Int) else 0
def eh (L:List Nd)(o:List Int) (i:Int):Nd:=
 ⟨(L.getD i.toNat ⟨0,[],[],false⟩).fact,(L.getD i.toNat ⟨0,[],[],false⟩).cuts,(L.getD i.toNat ⟨0,[],[],false⟩).kids.map (cU o),(L.getD i.toNat ⟨0,[],[],false⟩).leaf⟩
def br (L:List Nd) (root:Int):List Int:=cX L (L.length+1) [] root
def cV (L:List Nd) (root:Int):List Nd:=(br L root).map (eh L (br L root))
def ZV {L:List Nd}(hw:WK L) (f:Nat):∀(ks:List Int),(∀x∈ks,0≤x∧x<(L.length:Int))→∀o1,kL L o1→o1.length≤(ks.foldl (cX L f) o1).length
 |[],_,o1,_=>ae _
 |k::ks,hk,o1,h1=>by
  obtain⟨a1,a2⟩:=vX hw f o1 k h1 (hk k aq);have:=ZV hw f ks (fun x hx=>hk x (an _ hx)) _ a1;simp only[List.foldl_cons];omega
def zxu {L:List Nd}(hw:WK L){root:Int}(hr:0≤root∧root<(L.length:Int)):br L root≠[]:=by
 intro e;rw[br,cX,if_neg (by simp)]at e;have hk:∀x∈(L.getD root.toNat ⟨0,[],[],false⟩).kids,0≤x∧x<(L.length:Int):=by
  have hl:root.toNat<L.length:=by omega
  rw[ak,aa hl];exact hw _ (ah hl)
 have:=ZV hw L.length _ hk ([]++[root]) (kL.snoc ⟨by simp,by simp⟩ (by simp) hr);rw[e]at this;simp at this
@[go_sem] theorem zW8 (x:Int)(o:List Int)(h:Tr ABlk) (nx:Nat):bX false (.int .i64 0) (vN x o 0) h nx=.val (.int .i64 (cU o x)) h nx:=by
 by_cases e:x∈o
 ·rw[Ry 0 e,cU,if_pos e];simp[bX,nh]
 ·rw[QS 0 e,cU,if_neg e];rfl
def K7 (lo:Nat)(h:Tr ABlk) (nx:Nat)(vk:AV)(cur:List Int):Prop:=(cur=[]∧vk=.fz 1 false [])∨(cur≠[]∧∃b,lo<b∧b<nx∧vk=.sl b 0 cur.length 0 true∧h.get b=some (bx 3 (aG cur) true 1))
structure lV (o:List Int) (q nx ny p:Nat)(cells:List AV)(h:Tr ABlk):Prop where
 gq:h.get q=some (bx 3 (aG o) true 1)
 gm:h.get nx=some (bx 182 [.ptr p 0] false 0)
 gp:h.get (nx+3)=some (bx 234 [.map (nx+2)] false 0)
 ge:h.get (nx+2)=some (.map (po o 0) o.length)
 gz:h.get (nx+1)=some (bx 92 [.sl0] false 0)
 gu:h.get (ny+1)=some (bx 92 [.sl ny 0 o.length o.length false] false 0)
 gt:h.get ny=some (bx 154 cells false 0)
def lV.mono {o:List Int}{q nx ny p m:Nat}{cells:List AV}{h g:Tr ABlk}(S:lV o q nx ny p cells h)(e:∀k,k<m→g.get k=h.get k)(h1:nx+6≤ny)(h2:q<ny)(h3:ny+2≤m):lV o q nx ny p cells g:=by
 obtain⟨gq,gm,gp,ge,gz,gu,gt⟩:=S;refine⟨?_,?_,?_,?_,?_,?_,?_⟩
 all_goals (rw[e _ (by omega)];assumption)
def Z1 {D:List Nd}{n:Nd}{z4:List AV}{m k:Nat}(hD:D.length=k)(hz:z4.length=4):aI (D.flatMap Nd.cs++kU z4 (m+1)) (k * 4) n.cs=(D++[n]).flatMap Nd.cs++kU z4 m:=by
 have h1:(D.flatMap Nd.cs).length=k * 4:=by rw[BG,hD]
 have h2:n.cs.length=4:=by cases n;rfl
 rw[zQ9,List.take_left' h1,h2,zyx,List.drop_append,h1,show k * 4+4-k * 4=4 by omega,al (by omega),List.nil_append,List.drop_left' hz];simp
def zU6:cx.ft.get 146=some Tryz.f146:=aO
section
variable (ops : List Oper) (K : AS → Prop) (dst : Option Tmp) (ty : TypeId) (pos : String) (aY : Array Edge) (tm : Tr AV) (h : Tr ABlk) (nx : Nat) (ds : List DE) (P : Program) (c : Cx) (sz : Nat)
@[go_sem ↓] theorem zX2 (t:TypeId)(l cp:Operand):cI P c sz ops ⟨dst,.makeSlice t l cp,ty,pos,aY,none⟩ K (.mk tm h nx ds)=dF sz dst tm ds K (Eb c t l cp tm h nx):=rfl
end
attribute [go_sem] Eb
@[go_sem] theorem zY3 (e a1 a2 b1 bytes n:Nat)(a3:Option AV)(a4 b4:List (Nat×Nat×Bool))(d2:TypeDesc)(z:AV)(k1 k2:IntKind)(h:Tr ABlk) (nx:Nat)(h1:n≤16777216)(h2:bytes≤16777216):
  H5 (.mk (.slice e) a1 a2 a3 a4) (some (.mk d2 b1 bytes (some z) b4)) e (.int k1 (n:Int)) (.int k2 (n:Int)) h nx=.val (.sl nx 0 n n false) (h.put nx (some (bx e (kU z.cells n) false 0))) (nx+1):=by
 simp[H5,BJ,Nat.beq_refl,jn,h1,h2,fN_eq,newK_eq]
def lW {a b:Nat}(h:a<b):(a=b)=False:=by simp;omega
def Ys (z:List AV) (n:Nat):(kU z n).length=n * z.length:=by
 induction n with
 |zero=>simp[zzh]
 |succ n ih=>rw[zyx,List.length_append,ih,Nat.succ_mul];omega
def Re (O:Nat→Prop)(L:List Nd) (p nx:Nat)(h:Tr ABlk) (root:Int)(hM:ke O h nx p L)(hO:∀k,O k→k<nx)(hw:WK L)(eO:∀n∈L,n.kids.length≤1000000)(hl:L.length≤1000000)(hr:0≤root∧root<(L.length:Int)):
  di 146 [.ptr p 0,.int .i64 root] h nx (fun v g ny=>v=(if 20000<(br L root).length then .tup [.agg [.fz 4 false []],.int .i64 2] else .tup [.agg [.fz 4 false (bQ (cV L root))],.int .i64 0])∧g=h∧ny=nx):=by
 refine bf.mkW fun R hR=>aP zU6 (sz:=71) (rs:=[.cell 4 92,.tmp 5]) ?_;have UG:ke (fun k=>k<nx) h nx p L:=hM.mono hO (fun _ _ _=>rfl) (ae _);have z1:¬nx+3=nx+2:=by omega
 simp[go_sem,aI];have E0:∀(x1 x2 x3 x4 x5 x6 x7:Option ABlk) (g0:Tr ABlk),az nx h g0→az nx h g0:=fun _ _ _ _ _ _ _ _ e=>e;clear E0;generalize cY:Tr.put _ (nx+2+1+1+1) (some (bx 235 [AV.func 206 [] _] false 0))=h0;have E0:az nx h h0:=by
  rw[← cY];simp(disch:=omega)only[aK,az.refl]
 have g1:h0.get (nx+1)=some (bx 92 [.sl0] false 0):=by rw[← cY];simp[go_sem]
 have kN:VsSt nx p 0 [] h0 (nx+6):=by
  refine⟨by omega,?_,?_,?_,?_,.inl ⟨rfl,?_⟩⟩
  all_goals (rw[← cY];simp(disch:=omega) [go_sem,po,lW])
 clear cY;refine zS8 L nx p hw eO hl (L.length+1) [] h0 (nx+6) 0 root _ (UG.ext E0 (by omega)) kN ⟨by simp,by simp⟩ hr (by simp) fun g ny q c1 c2 c3=>?_;have s8:=(vX hw (L.length+1) [] root ⟨by simp,by simp⟩ hr).1;have ho:cX L (L.length+1) [] root=br L root:=rfl;rw[ho]at c3 s8;have aT:=zxu hw hr;unfold cV at hR;obtain⟨lb,gm,ge,gp,gv,go⟩:=c3
 rcases go with⟨e,_⟩ |⟨_,q1,q2,go,gq⟩
 ·exact absurd e aT
 have Da:=s8.len;have E8:g.get (nx+1)=some (bx 92 [.sl0] false 0):=by rw[c1.2];exact g1
 have E1:az nx h g:=fun k hk=>by rw[c1.1 k hk];exact E0 k hk
 clear c1 g1 E0 kN;generalize br L root=o at *
 by_cases dY:20000<o.length
 ·rw[if_pos dY]at hR;have iJ:(20000:Int)<(o.length:Int):=by omega
  simp[go_sem,aA,go,iJ,E8,aI];refine hR _ _ _ (.tup [.agg [.sl0],.int .i64 2]) ?_ (Fz.eq rfl rfl) ?_
  ·simp(disch:=omega)only[aK];exact E1
  ·exact .tup _ _ (.cons _ _ _ _ (.agg _ _ (.cons _ _ _ _ (.sl0 4 false) .nil)) (.cons _ _ _ _ (.same _) .nil))
 ·rw[if_neg dY]at hR;have iJ:¬(20000:Int)<(o.length:Int):=by omega
  have oS:o.length≤16777216:=by omega
  have d1:¬nx+4=ny:=by omega
  have d2:¬nx+3=ny:=by omega
  have d3:¬nx+2=ny:=by omega
  have d4:¬q=ny:=by omega
  have d5:¬q=ny+1:=by omega
  have d6:¬nx=ny:=by omega
  have d7:¬nx=ny+1:=by omega
  have d8:¬nx+1=ny:=by omega
  obtain⟨z4,yN⟩:∃z4:List AV,z4=[.int .i64 0,.sl0,.sl0,.bool false]:=⟨_,rfl⟩;simp[go_sem,aA,go,iJ,oS,d1,d2,aI];rw[← yN];refine bF (fun mm st=>∃tm h' ax k,st=.mk tm h' ax []∧mm=o.length-k∧k≤o.length∧tm.get 2=some (.ptr nx 0)∧tm.get 4=some (.ptr (nx+1) 0)∧tm.get 6=some (.ptr (nx+3) 0)∧tm.get 9=some (.ptr (ny+1) 0)∧tm.get 27=some (.sl q 0 o.length 0 true)∧tm.get 28=some (.int .i64 (o.length:Int))∧tm.get 29=some (.int .i64 (k:Int))∧
 lV o q nx ny p (((o.take k).map (eh L o)).flatMap Nd.cs++kU z4 (o.length-k)) h'∧az nx h h'∧ny+2≤ax) ⟨o.length,_,_,_,0,rfl,by simp,by simp,?_⟩ ?_
  ·simp[go_sem];refine⟨⟨?_,?_,?_,?_,?_,?_,?_⟩,?_⟩
   all_goals first |(simp(disch:=omega) [go_sem,lW,gq,gm,gp,ge,E8,d4,d5,d6,d7,d8,d3,yN];done) |(simp(disch:=omega)only[aK];exact E1)
  ·rintro mm st ⟨tm,h',ax,k,rfl,rfl,hk,t2,t4,t6,t9,t27,t28,t29,hF,he,qY⟩ J hJ
   obtain⟨oc,IP,MN,ge',Uh,Uf,IS⟩:=hF;have hF:lV o q nx ny p (((o.take k).map (eh L o)).flatMap Nd.cs++kU z4 (o.length-k)) h':=⟨oc,IP,MN,ge',Uh,Uf,IS⟩;refine bl ?_
   by_cases ay:k<o.length
   ·generalize IU:((o.take k).map (eh L o)).flatMap Nd.cs++kU z4 (o.length-k)=CL at IS hF;obtain⟨x,hx⟩:∃x,x=o[k]:=⟨_,rfl⟩;have hxr:=s8.2 o[k] (ah ay);rw[← hx]at hxr;obtain⟨xN,VB⟩:∃xN:Nat,x=(xN:Int):=⟨x.toNat,by omega⟩;have Dj:xN<L.length:=by omega
    obtain⟨n,hn⟩:∃n,n=L[xN]:=⟨_,rfl⟩;have F6:eh L o x=⟨n.fact,n.cuts,n.kids.map (cU o),n.leaf⟩:=by
     rw[hn];simp only[eh,VB,Int.toNat_natCast,ak,aa Dj];rfl
    have Ov:n.kids.length≤1000000:=by rw[hn];exact eO _ (ah Dj)
    have dR:(o.take (k+1)).map (eh L o)=(o.take k).map (eh L o)++[⟨n.fact,n.cuts,n.kids.map (cU o),n.leaf⟩]:=by
     rw[List.take_succ_eq_append_getElem ay,List.map_append,← hx,← F6];rfl
    obtain⟨_,ma,mb,gM,hU⟩:=UG;have uL:h'.get p=some (bx 187 [ma,mb] false 0):=by rw[he p hU.2.2.1];exact gM
    obtain⟨_,_,A4,NB⟩:=hU
    rcases NB with⟨e1,_,_⟩ |⟨l0,mm,mq,o1,o2,m1,mq1,m2,mq2,mq3,e1,gmm,e2,E6⟩
    ·rw[e1]at Dj;simp at Dj
    subst e2;have E7:h'.get mq=some (bx 154 (L.flatMap Nd.cs) true 4):=by rw[he mq mq1];exact E6
    have ig:=KU L xN _ (aa Dj);rw[← hn]at ig;have ij:=BG L;have uX:xN * 4+4≤(L.flatMap Nd.cs).length:=(by omega);have hox:∀hh,(aG o)[k]'hh=.int .i64 (xN:Int):=fun hh=>Em (by rw[aa ay,← hx,VB]) hh;generalize L.flatMap Nd.cs=LL at E7 ig uX;simp only[Nd.cs]at ig;have f1:¬p=ax:=(by omega);have f2:¬q=ax:=(by omega);have f3:¬nx=ax:=(by omega);have f4:¬mq=ax:=(by omega);simp[go_sem,t2,t27,t28,t29,ay,oc,IP,uL,E7,Dj,ig,uX,hox,aI];have tail:∀(vk:AV) (h2:Tr ABlk) (rU:Nat),True:=fun _ _ _=>trivial;clear tail;refine zRs false n.kids (by omega) _ _ _ (fun eY=>?ca) fun eY g1 b ny1 c1 c2 c3 c4=>?cb
    case' ca=>
     have Ou:n.kids.length=0:=by rw[eY];rfl
     simp[go_sem,aA,aI];generalize yA:Tr.put _ ax (some (bx 154 [_,_,AV.fz 1 false [],_] false 0))=h2;obtain⟨vk,GQ⟩:∃vk:AV,vk=.fz 1 false []:=⟨_,rfl⟩;have pJ:∀a,a<ax→h2.get a=h'.get a:=by
      intro a ha;rw[← yA];simp(disch:=omega) [go_sem,lW]
     have g2:h2.get ax=some (bx 154 [.int .i64 n.fact,.fz 1 false (aG n.cuts),vk,.bool n.leaf] false 0):=by
      rw[← yA];simp[go_sem,GQ]
     have M5:K7 ax h2 (ax+1) vk n.kids:=.inl ⟨eY,GQ⟩;clear yA;have Nb:lV o q nx ny p CL h2:=hF.mono pJ lb q2 qY;have qE:az nx h h2:=fun a ha=>by rw[pJ a (by omega)];exact he a ha
     generalize AT:ax+1=ny1 at M5 ⊢;have u9:ax<ny1:=by omega
    case' cb=>
     have Ou:True:=trivial;have gnx:g1.get ax=some (bx 154 [.int .i64 n.fact,.fz 1 false (aG n.cuts),.fz 1 false (aG n.kids),.bool n.leaf] false 0):=by
      rw[c1 ax (by omega)];simp[go_sem]
     simp[go_sem,aA,gnx,aI];generalize yA:Tr.put _ ax (some (bx 154 [_,_,AV.sl b 0 _ 0 true,_] false 0))=h2;obtain⟨vk,GQ⟩:∃vk:AV,vk=.sl b 0 n.kids.length 0 true:=⟨_,rfl⟩;have pJ:∀a,a<ax→h2.get a=h'.get a:=by
      intro a ha;rw[← yA,Tr.get_put,if_neg (by omega),c1 a (by omega)];simp(disch:=omega) [go_sem,lW]
     have g2:h2.get ax=some (bx 154 [.int .i64 n.fact,.fz 1 false (aG n.cuts),vk,.bool n.leaf] false 0):=by
      rw[← yA];simp[go_sem,GQ]
     have M5:K7 ax h2 ny1 vk n.kids:=.inr ⟨eY,b,by omega,c3,GQ,by rw[← yA];simp[go_sem,show ¬b=ax by omega,c4]⟩;clear yA;have Nb:lV o q nx ny p CL h2:=hF.mono pJ lb q2 qY;have qE:az nx h h2:=fun a ha=>by rw[pJ a (by omega)];exact he a ha
     have u9:ax<ny1:=by omega
    all_goals
     refine bF (fun mm st=>∃tm h3 w7 j vk cur,st=.mk tm h3 w7 []∧mm=n.kids.length-j∧j≤n.kids.length∧tm.get 2=some (.ptr nx 0)∧tm.get 4=some (.ptr (nx+1) 0)∧tm.get 6=some (.ptr (nx+3) 0)∧tm.get 9=some (.ptr (ny+1) 0)∧tm.get 27=some (.sl q 0 o.length 0 true)∧tm.get 28=some (.int .i64 (o.length:Int))∧tm.get 29=some (.int .i64 (k:Int))∧tm.get 10=some (.int .i64 (k:Int))∧tm.get 12=some (.ptr ax 0)∧tm.get 48=some (.int .i64 (n.kids.length:Int))∧tm.get 49=some (.int .i64 (j:Int))∧
      lV o q nx ny p CL h3∧az nx h h3∧ax<w7∧h3.get ax=some (bx 154 [.int .i64 n.fact,.fz 1 false (aG n.cuts),vk,.bool n.leaf] false 0)∧
      K7 ax h3 w7 vk cur∧RowKit.Hid (cur=(n.kids.take j).map (cU o)++n.kids.drop j)) ⟨n.kids.length,_,_,_,0,vk,n.kids,rfl,by simp,by simp,?_⟩ ?_
     ·simp[go_sem,t2,t4,t6,t9,t27,t28,t29,Ou];exact⟨Nb,qE,u9,g2,M5,Lib.hid trivial⟩
     ·rintro mm2 vo ⟨tm,h3,w7,j,vk,cur,rfl,rfl,hj,t2,t4,t6,t9,t27,t28,t29,t10,t12,t48,t49,sW,zT,AP,g3,eB,hv⟩ J2 oQ
      obtain⟨wi,MM,E9,EZ,MR,MP,yi⟩:=sW;have sW:lV o q nx ny p CL h3:=⟨wi,MM,E9,EZ,MR,MP,yi⟩
      by_cases cy:j<n.kids.length
      ·refine bl ?_;have aX:cur.length=n.kids.length:=by rw[hv.out];simp;omega
       rcases eB with⟨gQ,_⟩ |⟨_,b,b1,b2,rfl,gb⟩
       ·rw[gQ]at aX;simp at aX;omega
       have AK:((n.kids.take j).map (cU o)).length=j:=by simp;omega
       have rN:cur[j]?=some n.kids[j]:=by
        rw[hv.out,List.getElem?_append_right (by omega),AK,Nat.sub_self,List.getElem?_drop,Nat.add_zero,aa cy]
       have FN:=Em rN;have tL:=RM cur j (cU o n.kids[j]) (by omega);have gD:cur.set j (cU o n.kids[j])=(n.kids.take (j+1)).map (cU o)++n.kids.drop (j+1):=by
        rw[hv.out,List.take_succ_eq_append_getElem cy,aj cy,List.set_append_right _ _ (by omega),AK,Nat.sub_self,List.map_append,List.set_cons_zero,List.append_assoc];rfl
       have HV:=Lib.hid gD;clear gD;have uW:j<cur.length:=(by omega);have Az:j+1≤cur.length:=(by omega);rw[← aX]at cy;rw[← aX]at t48;have k1:¬ax=b:=(by omega);have k2:¬b=ax:=(by omega);generalize hy:n.kids[j]=y at FN tL HV;simp[go_sem,t48,t49,cy];refine eI [11] [] [] ?_;simp[go_sem,t6,t12,t49,cy,Az,g3,gb,E9,EZ,FN,tL];refine oQ (n.kids.length-(j+1)) _ (by omega) ⟨_,_,_,j+1,.sl b 0 cur.length 0 true,cur.set j (cU o y),rfl,rfl,by omega,?_⟩;simp(disch:=omega) [go_sem,t2,t4,t6,t9,t27,t28,t29,t10,t12,t48,aS,aX,k1,g3];refine⟨sW.mono (m:=ax) (fun a ha=>by rw[Tr.get_put,if_neg (by omega)]) lb q2 qY,?_,AP,.inr ⟨?_,b,b1,b2,by simp[aX],by simp[go_sem]⟩,Lib.hid (by rw[HV.out,List.map_take])⟩
       ·simp(disch:=omega)only[aK,zT]
       ·intro e;have:=congrArg List.length e;simp at this;rw[this]at uW;simp at uW
      ·have yE:j=n.kids.length:=(by omega);have Aq:cur=n.kids.map (cU o):=by
        rw[hv.out,ar (by omega),al (by omega),List.append_nil]
       obtain⟨nd,fH⟩:∃nd:Nd,nd=⟨n.fact,n.cuts,n.kids.map (cU o),n.leaf⟩:=⟨_,rfl⟩;have CQ:((o.take k).map (eh L o)).length=k:=by simp;omega
       have tN:aI CL (k * 4) nd.cs=((o.take (k+1)).map (eh L o)).flatMap Nd.cs++kU z4 (o.length-(k+1)):=by
        rw[dR,← fH,← IU,show o.length-k=(o.length-(k+1))+1 by omega];exact Z1 CQ (by rw[yN];rfl)
       have M6:CL.length=o.length * 4:=by
        rw[← IU,List.length_append,BG,CQ,Ys,yN];simp;omega
       have tw:k * 4+4≤CL.length:=(by omega);have OM:nd.cs=[.int .i64 n.fact,.fz 1 false (aG n.cuts),.fz 1 false (aG cur),.bool n.leaf]:=by rw[fH,Aq];rfl
       rw[OM]at tN;have Ot:k * 4<CL.length:=by omega
       rcases eB with⟨gQ,rfl⟩ |⟨_,b,b1,b2,rfl,gb⟩
       ·obtain⟨h4,mg⟩:∃h4,h4=h3:=⟨_,rfl⟩;have g4:h4.get ax=some (bx 154 [.int .i64 n.fact,.fz 1 false (aG n.cuts),.fz 1 false (aG cur),.bool n.leaf] false 0):=by rw[mg,g3,gQ];rfl
        have sZ:∀a,a<ax→h4.get a=h3.get a:=fun a _=>by rw[mg]
        rw[← mg];have sX:lV o q nx ny p CL h4:=sW.mono (m:=ax) (fun a ha=>sZ a ha) lb q2 qY;have uK:az nx h h4:=fun a ha=>by rw[sZ a (by omega)];exact zT a ha
        clear mg;obtain⟨sS,sQ,sR,sP,sU,oO,eA⟩:=sX;have sX:lV o q nx ny p CL h4:=⟨sS,sQ,sR,sP,sU,oO,eA⟩;refine bl ?_;have AA:¬j<n.kids.length:=cy;simp[go_sem,t9,t29,t10,t12,t48,t49,AA,g4,oO,eA,ay,tw,tN];refine hJ (o.length-(k+1)) _ (by omega) ⟨_,_,_,k+1,rfl,rfl,by omega,?_⟩;simp(disch:=omega) [go_sem,t2,t4,t6,t9,t27,t28,aS];refine⟨⟨?_,?_,?_,?_,?_,?_,?_⟩,?_,by omega⟩
        ·rw[Tr.get_put,if_neg (by omega)];exact sS
        ·rw[Tr.get_put,if_neg (by omega)];exact sQ
        ·rw[Tr.get_put,if_neg (by omega)];exact sR
        ·rw[Tr.get_put,if_neg (by omega)];exact sP
        ·rw[Tr.get_put,if_neg (by omega)];exact sU
        ·rw[Tr.get_put,if_neg (by omega)];exact oO
        ·rw[Tr.get_put,if_pos rfl]
         try simp only[List.map_take]
        ·simp(disch:=omega)only[aK,uK]
       ·obtain⟨h4,mg⟩:∃h4,h4=(jA h3 [b]).put ax (some (bx 154 [.int .i64 n.fact,.fz 1 false (aG n.cuts),.fz 1 false (aG cur),.bool n.leaf] false 0)):=⟨_,rfl⟩;have g4:h4.get ax=some (bx 154 [.int .i64 n.fact,.fz 1 false (aG n.cuts),.fz 1 false (aG cur),.bool n.leaf] false 0):=by rw[mg];simp[go_sem]
        have sZ:∀a,a<ax→h4.get a=h3.get a:=fun a ha=>by rw[mg,Tr.get_put,if_neg (by omega),oF (by simp;omega)]
        refine Co (fun a=>a∈[b]) (h':=h4) (tm':=tm) ?_ qw.refl ?_
        ·rw[mg];refine iG.put (iG.kill _) (by simp;omega) g3 (.cells _ _ _ _ _ _ fun a ha v bM=>?_);rw[fX]at bM ⊢
         rcases a with _ |_ |_ |_ |a
         ·simp at bM;subst bM;exact⟨_,rfl,.same _⟩
         ·simp at bM;subst bM;exact⟨_,rfl,.same _⟩
         ·simp at bM;subst bM;exact⟨_,rfl,zN (s:=cur) (r:=[]) (by simp) (by rw[List.append_nil];exact gb)⟩
         ·simp at bM;subst bM;exact⟨_,rfl,.same _⟩
         ·simp at bM
        have sX:lV o q nx ny p CL h4:=sW.mono (m:=ax) (fun a ha=>sZ a ha) lb q2 qY;have uK:az nx h h4:=fun a ha=>by rw[sZ a (by omega)];exact zT a ha
        clear mg;obtain⟨sS,sQ,sR,sP,sU,oO,eA⟩:=sX;have sX:lV o q nx ny p CL h4:=⟨sS,sQ,sR,sP,sU,oO,eA⟩;refine bl ?_;have AA:¬j<n.kids.length:=cy;simp[go_sem,t9,t29,t10,t12,t48,t49,AA,g4,oO,eA,ay,tw,tN];refine hJ (o.length-(k+1)) _ (by omega) ⟨_,_,_,k+1,rfl,rfl,by omega,?_⟩;simp(disch:=omega) [go_sem,t2,t4,t6,t9,t27,t28,aS];refine⟨⟨?_,?_,?_,?_,?_,?_,?_⟩,?_,by omega⟩
        ·rw[Tr.get_put,if_neg (by omega)];exact sS
        ·rw[Tr.get_put,if_neg (by omega)];exact sQ
        ·rw[Tr.get_put,if_neg (by omega)];exact sR
        ·rw[Tr.get_put,if_neg (by omega)];exact sP
        ·rw[Tr.get_put,if_neg (by omega)];exact sU
        ·rw[Tr.get_put,if_neg (by omega)];exact oO
        ·rw[Tr.get_put,if_pos rfl]
         try simp only[List.map_take]
        ·simp(disch:=omega)only[aK,uK]
   ·have fV:k=o.length:=(by omega);subst fV;simp[go_sem,t4,t9,t28,t29,Uf,Uh,aI];refine hR _ _ _ (.tup [.agg [.fz 4 false (bQ (o.map (eh L o)))],.int .i64 0]) ?_ ?_ (.same _)
    ·simp(disch:=omega)only[aK,he]
    ·refine .tup _ _ (.cons _ _ _ _ (.agg _ _ (.cons _ _ _ _ ?_ .nil)) (.cons _ _ _ _ (.int _ _) .nil));have hlen:o.length=(o.map (eh L o)).length:=by simp
     have Ag:(h'.put (nx+1) (some (bx 92 [.sl ny 0 o.length o.length false] false 0))).get ny=some (bx 154 ((o.map (eh L o)).flatMap Nd.cs) false 0):=by
      rw[List.take_length,Nat.sub_self,zzh,List.append_nil]at IS;simp(disch:=omega) [go_sem,show ¬ny=nx+1 by omega,IS]
     have:=T8 (nx:=nx) (s:=o.map (eh L o)) (cp:=o.length) (op:=false) (by omega) Ag;rw[← hlen]at this;exact this
def zHp {P : Program} {f : FuncId} {fn : Func} {e : Array Value → Sem Value} (hf : P.funcs[f]? = some fn) (hn : (fn.name == "runtime.NumGoroutine") = false) (hb : fn.body = none) (h1 : Extern.findNext fn = none) (h2 : Extern.find fn = some e) : ∀ A w, (callFunc f A).run P w = ((e A).run P w).andThen fun v w' => .ok (.value v) w' := by
 intro A w
 have ei : ¬ fn.name = "runtime.NumGoroutine" := fun e => by rw [e] at hn; simp at hn
 simp only[callFunc,Sem.run_bind,run_program,Result.andThen,hf,ei,hb,h1,h2,mark,Sem.run,Option.isNone_none,if_true,beq_iff_eq,if_false];cases (e A).run P w <;> rfl
def zPe (v:AV):aM 275 [v] v:=by
 intro h nx σ w A hk hA;simp only[aC]at hA;obtain⟨V,L,rfl,hV,rfl⟩:=hA;unfold CR;rw[zHp (e:=Extern.AbiNoEscape.same) (fn:=Tryz.f275) (by kernel_rfl) (by kernel_rfl) (by kernel_rfl) (by kernel_rfl) (by kernel_rfl)];exact⟨σ,v,h,nx,hV,.refl hk,rfl,rfl,rfl⟩
def zIo (b:UInt8):vt (.int .u8 (b.toNat:Int))=some b.toNat:=by
 have h:b.toNat<256:=b.toNat_lt;have h2:Nat.ble b.toNat 255=true:=Nat.ble_eq_true_of_le (by omega);show (match Nat.ble b.toNat 255 with |true=>some b.toNat |false=>none)=_;rw[h2]
def zyg:∀l:List UInt8,∃z,qv (bT l)=some z
 |[]=>⟨0,rfl⟩
 |b::l=>by
  obtain⟨z,hz⟩:=zyg l;refine⟨b.toNat+256 * z,?_⟩;rw[show bT (b::l)=.int .u8 (b.toNat:Int)::bT l from rfl,Rw,zIo,hz];rfl
def zzd (σ:Sg):∀l:List UInt8,aC σ (bT l) (l.map fun b=>Value.int .u8 (b.toNat:Int))
 |[]=>by simp only[bT,List.map_nil,aC]
 |b::l=>by
  rw[show bT (b::l)=.int .u8 (b.toNat:Int)::bT l from rfl];simp only[aC,List.map_cons];exact⟨_,_,rfl,by simp only[av],zzd σ l⟩
def zLg {l:List UInt8}{z:Nat}(hz:qv (bT l)=some z):bK l.length z=⟨l.toArray⟩:=by
 obtain⟨_,ns,h1,h2⟩:=KW (zzd ⟨fun _=>none,fun _=>0,fun _=>.nilFunc,fun _=>none⟩ l) hz;rw[ux]at h2;unfold bK;rw[← h2];have h3:ns=l.map fun b=>(b.toNat:Int):=by
  have:=congrArg (List.map fun v=>match v with |Value.int _ n=>n |_=>0) h1;simpa[Function.comp_def]using this.symm
 rw[h3,List.map_map]
 congr 2
 have:(fun z=>UInt8.ofNat (Int.toNat z)) ∘ (fun b:UInt8=>(b.toNat:Int))=id:=by
  funext b
  simp
 rw[this,List.map_id]
def KF (B:Option ABlk) (e i n:Nat)(h:Tr ABlk) (nx:Nat):R:=match B with
 |some (.cells e' m c _ _)=>match Nat.beq e' e && Nat.beq 0 0 && Nat.ble n m && Nat.ble n 4611686018427387904 with
  |false=>.fail
  |true=>match ji c n 0 with
   |none=>.fail
   |some l=>match qv l with
    |none=>.fail
    |some z=>.val (.str n z) (h.put i none) nx
 |_=>.fail
@[go_sem] theorem ycf (e a b:Nat)(c:Option AV) (x:Nat)(y:Bool)(fs:List (Nat×Nat×Bool)) (i n:Nat)(h:Tr ABlk) (nx:Nat)(hn:n≠0):
  H6 (.mk (.pointer e) a b c ((x,1,y)::fs)) (.ptr i 0) (.int .i64 (n:Int)) h nx=KF (h.get i) e i n h nx:=by
 have h0:Nat.beq n 0=false:=by cases n;exact absurd rfl hn;rfl
 show (match Nat.beq n 0 with
    |true=>R.val (.str 0 0) h nx
    |false=>match h.get i with
      |some (.cells e' m c _ _)=>match Nat.beq e' e && Nat.beq 0 0 && Nat.ble n m && Nat.ble n 4611686018427387904 with
       |false=>.fail
       |true=>match ji c n 0 with
        |none=>.fail
        |some l=>match qv l with
         |none=>.fail
         |some z=>fN z fun z=>h.putK none i fun h'=>.val (.str n z) h' nx
      |_=>.fail)=_
 rw[h0];unfold KF;cases h.get i with
 |none=>rfl
 |some B=>
  cases B <;> try rfl
  simp only[fN_eq,Tr.putK_eq]
@[go_sem] theorem zXh (t e i n z:Nat)(L:List AV)(opn:Bool) (esz:Nat)(h:Tr ABlk) (nx:Nat)(ht:t=e)(hn:n=L.length)(hz:qv L=some z)(hb:n≤4611686018427387904):KF (some (bx t L opn esz)) e i n h nx=.val (.str n z) (h.put i none) nx:=by
 subst ht;subst hn;have e1:=KE L L.length 0 (by omega);rw[List.drop_zero,List.take_length]at e1;simp[KF,bx,jn,hb,e1,hz]
def zLl:cx.ft.get 253=some Tryz.f253:=aO
def zIr:cx.ft.get 196=some Tryz.f196:=aO
def zUj:cx.ft.get 197=some Tryz.f197:=aO
def zRt:cx.ft.get 142=some Tryz.f142:=aO
def so (h:Tr ABlk) (nx a q:Nat)(l:List UInt8):Prop:=a<nx∧((l=[]∧h.get a=some (bx 192 [.ptr0,.sl0] false 0))∨(l≠[]∧q<nx∧q≠a∧h.get a=some (bx 192 [.ptr a 0,.sl q 0 l.length 0 true] false 0)∧h.get q=some (bx 5 (bT l) true 1)))
def zG1:cx.lies 192 1 0 192=true:=by kernel_rfl
def PI (B:Option ABlk) (i o:Nat)(h:Tr ABlk) (nx:Nat):R:=match B with
 |some (.cells _ n _ _ _)=>match Nat.ble (Nat.succ o) n with
  |true=>.val (.ptr i o) h nx
  |false=>.fail
 |_=>.fail
@[go_sem] theorem zWz (e a b:Nat)(c:Option AV) (x s:Nat)(y:Bool)(fs:List (Nat×Nat×Bool)) (i o:Nat)(h:Tr ABlk) (nx:Nat)(hs:s≠0):DZ (.mk (.pointer e) a b c ((x,s,y)::fs)) (.ptr i o) h nx=PI (h.get i) i o h nx:=by
 have h0:Nat.beq s 0=false:=by cases s;exact absurd rfl hs;rfl
 simp only[DZ,h0];rfl
@[go_sem] theorem zVo (i o t esz:Nat)(l:List AV)(opn:Bool)(h:Tr ABlk) (nx:Nat)(ho:o<l.length):PI (some (bx t l opn esz)) i o h nx=.val (.ptr i o) h nx:=by
 simp[PI,bx,jn,Nat.succ_le_of_lt ho]
def RZ (c:Cx)(B:Option ABlk) (u i o:Nat)(h:Tr ABlk) (nx:Nat):R:=match B with
 |some (.cells e n _ false _)=>match c.tt.get e with
  |some (.mk _ se _ _ _)=>match c.lies e (Nat.div n se) o u with
   |true=>.val (.ptr i o) h nx
   |false=>.fail
  |none=>.fail
 |_=>.fail
@[go_sem] theorem zY1 (c:Cx) (d u a b:Nat)(z:Option AV)(x:Nat×Nat×Bool)(fs:List (Nat×Nat×Bool)) (i o:Nat)(h:Tr ABlk) (nx:Nat):H2 c d (.mk (.pointer u) a b z (x::fs)) (.ptr i o) h nx=RZ c (h.get i) u i o h nx:=rfl
@[go_sem] theorem ybe (i:Nat)(x y:AV) (esz:Nat)(h:Tr ABlk) (nx:Nat):RZ cx (some (bx 192 [x,y] false esz)) 192 i 0 h nx=.val (.ptr i 0) h nx:=by
 have h1:=zNc;simp only[RZ,bx,h1];have h2:Nat.div [x,y].length 2=1:=by show Nat.div 2 2=1;decide
 rw[h2,zG1]
@[go_sem] theorem ybu (i o l:Nat)(h:Tr ABlk) (nx:Nat)(hl:l≠0):ID [.sl i o l 0 true] h nx=.val (.ptr i o) h nx:=by
 have:Nat.ble 1 l=true:=Nat.ble_eq_true_of_le (by omega);show (match Nat.ble 1 l with |true=>R.val (.ptr i o) h nx |false=>.fail)=_;rw[this]
@[go_sem] theorem ybd (c:Cx)(t u:TypeId)(a b:AV)(h:Tr ABlk) (nx:Nat):IE c (List.toArray [t,u]) [a,b] h nx=bR (c.tt.get t) fun ti=>H6 ti a b h nx:=rfl
def S6 (a:Nat)(x y:AV)(hx:x=.ptr0∨x=.ptr a 0)(h:Tr ABlk) (nx:Nat)(ha:h.get a=some (bx 192 [x,y] false 0))(R:AV→Tr ABlk→Nat→Prop)(hR:∀g,g.get a=some (bx 192 [.ptr a 0,y] false 0)→(∀k,k≠a→g.get k=h.get k)→R (.tup []) g nx):di 253 [.ptr a 0] h nx R:=by
 refine aP zLl (sz:=20) (rs:=[]) ?_
 rcases hx with rfl |rfl
 ·simp[go_sem,ha];refine aB.use (zPe _) ?_;simp[go_sem,aA,ha,aI];exact hR _ (by simp[go_sem]) (fun k hk=>by simp[go_sem,hk])
 ·simp[go_sem,ha];exact hR _ ha (fun k hk=>rfl)
def zS4 (h:Tr ABlk) (nx a q:Nat)(l:List UInt8)(s:ByteArray)(hs:s.size≠0)(hl:l.length+s.size≤16777216)(hB:so h nx a q l)(R:AV→Tr ABlk→Nat→Prop)
  (hR:∀v g ny q',nx≤ny→(∀k,k<nx→k≠a→k≠q→g.get k=h.get k)→nx≤q'→so g ny a q' (l++s.data.toList)→R v g ny):di 196 [.ptr a 0,.bs s] h nx R:=by
 refine aP zIr (sz:=19) (rs:=[.tmp 4,.tmp 5]) ?_;have fo:=vE s.data.toList;have lI:s.data.toList.length=s.size:=by simp
 have mO:s.data.toList≠[]:=fun e=>hs (by rw[← lI,e];rfl);obtain⟨I6,⟨rfl,ga⟩ |⟨h1,re,Dc,ga,gq⟩⟩:=hB
 ·simp only[List.length_nil,Nat.zero_add]at hl;simp[go_sem];refine S6 a _ _ (.inl rfl) h nx ga _ fun g g1 g2=>?_;have n1:¬a=nx:=by omega
  simp[go_sem,aA,g1,fo,hs,hl,n1,aI];refine hR _ _ _ nx (by omega) (fun k k1 k2 k3=>?_) (by omega) ⟨by omega,.inr ⟨by simpa using mO,by omega,by omega,?_,?_⟩⟩
  ·simp[go_sem,k2,show ¬k=nx by omega];exact g2 k k2
  ·simp[go_sem]
  ·simp[go_sem,show ¬nx=a by omega]
 ·simp[go_sem];refine S6 a _ _ (.inr rfl) h nx ga _ fun g g1 g2=>?_;have n1:¬a=nx:=by omega
  have n2:¬a=q:=fun e=>Dc e.symm;have oc:g.get q=some (bx 5 (bT l) true 1):=by rw[g2 q Dc];exact gq
  have uH:=vE l;simp[go_sem,aA,g1,oc,fo,hl,n1,n2,aI];refine hR _ _ _ nx (by omega) (fun k k1 k2 k3=>?_) (by omega) ⟨by omega,.inr ⟨by simp[h1],by omega,by omega,?_,?_⟩⟩
  ·simp[go_sem,k2,k3,show ¬k=nx by omega];exact g2 k k2
  ·simp[go_sem]
  ·simp[go_sem,show ¬nx=a by omega,xj]
def zJo (h:Tr ABlk) (nx a q:Nat)(l:List UInt8)(x:UInt8)(hl:l.length+1≤16777216)(aT:l≠[])(hB:so h nx a q l)(R:AV→Tr ABlk→Nat→Prop)
  (hR:∀v g ny q',nx≤ny→(∀k,k<nx→k≠a→k≠q→g.get k=h.get k)→nx≤q'→so g ny a q' (l++[x])→R v g ny):di 197 [.ptr a 0,.int .u8 (x.toNat:Int)] h nx R:=by
 refine aP zUj (sz:=17) (rs:=[.tmp 4]) ?_;obtain⟨I6,⟨e,ga⟩ |⟨h1,re,Dc,ga,gq⟩⟩:=hB
 ·exact absurd e aT
 ·simp[go_sem];refine S6 a _ _ (.inr rfl) h nx ga _ fun g g1 g2=>?_;have n1:¬a=nx:=by omega
  have n2:¬a=q:=fun e=>Dc e.symm;have n3:¬q=nx:=by omega
  have n4:¬a=nx+1:=by omega
  have oc:g.get q=some (bx 5 (bT l) true 1):=by rw[g2 q Dc];exact gq
  have uH:=vE l;simp[go_sem,aA,g1,oc,hl,n1,n2,n3,n4,aI];refine hR _ _ _ (nx+1) (by omega) (fun k k1 k2 k3=>?_) (by omega) ⟨by omega,.inr ⟨by simp,by omega,by omega,?_,?_⟩⟩
  ·simp[go_sem,k2,k3,show ¬k=nx by omega,show ¬k=nx+1 by omega];exact g2 k k2
  ·simp[go_sem]
  ·simp[go_sem,show ¬nx+1=a by omega,xj];rfl
@[go_sem] theorem yav (callee:Callee)(x:Operand)(l:List Operand)(iz:Array TypeId):pI (.call ⟨callee,List.toArray (x::l),iz⟩)=some x:=rfl
@[go_sem] theorem zXr (i o l c:Nat)(b:Bool)(h h':Tr ABlk):gJ (some (.sl i o l c b)) h h'=(h'.get i=h.get i):=rfl
def zSx (h:Tr ABlk) (nx a q:Nat)(l:List UInt8)(aT:l≠[])(hl:l.length≤16777216)(hB:so h nx a q l)(R:AV→Tr ABlk→Nat→Prop)(hR:R (.bs ⟨l.toArray⟩) (h.put q none) nx):di 142 [.ptr a 0] h nx R:=by
 obtain⟨I6,⟨e,ga⟩ |⟨h1,re,Dc,ga,gq⟩⟩:=hB
 ·exact absurd e aT
 obtain⟨z,hz⟩:=zyg l;have fK:=zLg hz;refine bf.wkR (R:=fun v g ny=>v=.str l.length z∧g=h.put q none∧ny=nx) ?_ ?_
 ·refine aP zRt (sz:=14) (rs:=[.tmp 2]) ?_;have mN:l.length≠0:=fun e=>aT (au e);have jI:l.length≤4611686018427387904:=by omega
  simp[go_sem];refine eI [4,10] [] [(8,4),(9,4)] ?_;simp[go_sem,ga,gq,hz,mN,jI]
 ·rintro v g ny ⟨rfl,rfl,rfl⟩
  refine⟨.bs (bK l.length z),.str _ _,?_⟩;rw[fK];exact hR
def zT0:cx.ft.get 140=some Tryz.f140:=aO
mutual
def iW:Fm→List UInt8
 |.mk o n c m kids=>Lib.itoa o++(n.data.toList++(44::(Lib.itoa c++(44::(Lib.itoa m++(40::(gY kids++[41])))))))
def gY:List Fm→List UInt8
 |[]=>[]
 |f::l=>iW f++gY l
end
mutual
def EG:Fm→Prop
 |.mk o _ c m kids=>dh o∧dh c∧dh m∧KB kids
def KB:List Fm→Prop
 |[]=>True
 |f::l=>EG f∧KB l
end
def Yq:∀{l:List Fm},KB l→∀f∈l,EG f
 |[],_,f,h=>by cases h
 |x::l,hl,f,h=>by
  rcases List.mem_cons.1 h with rfl |h
  ·exact hl.1
  ·exact Yq hl.2 f h
def zRb (f:Fm):iW f≠[]:=by
 cases f;simp[iW]
def zM8 (n a:Nat):∀(f:Fm)(l:List UInt8)(h:Tr ABlk) (nx q:Nat)(R:AV→Tr ABlk→Nat→Prop),f.size≤n→n≤1000000→EG f→so h nx a q l→l.length+(iW f).length≤16000000→
  (∀v g ny q',nx≤ny→(∀k,k<nx→k≠a→k≠q→g.get k=h.get k)→(q'=q∨nx≤q')→so g ny a q' (l++iW f)→R v g ny)→di 140 [.ptr a 0,.agg f.cs] h nx R:=by
 induction n with
 |zero=>intro f l h nx q R hf;cases f;simp[Fm.size]at hf
 |succ n ih=>
 rintro⟨o,nn,cm,m,kids⟩ l h nx q R hf hn hI hB hl hR
 simp only[Fm.size]at hf;obtain⟨Nj,Nf,Ni,hIk⟩:=hI;have lI:=sI kids;refine aP zT0 (sz:=38) (rs:=[]) ?_;simp[go_sem,Fm.cs];refine Hz mixed iQ xh 18 [] [3,10,15] [] [] 0 (by kernel_rfl) (by kernel_rfl) ?_;simp[go_sem];have io:=LR o Nj.1 Nj.2;have ic:=LR cm Nf.1 Nf.2;have im:=LR m Ni.1 Ni.2;have lo:=xw o Nj;have lc:=xw cm Nf;have lm:=xw m Ni;have o9:(iW (.mk o nn cm m kids)).length=(Lib.itoa o).length+(nn.size+(1+((Lib.itoa cm).length+(1+((Lib.itoa m).length+(1+((gY kids).length+1))))))):=by
  simp[iW];omega
 have eo:(⟨(Lib.itoa o).toArray⟩:ByteArray).size=(Lib.itoa o).length:=by simp[ByteArray.size]
 have ec:(⟨(Lib.itoa cm).toArray⟩:ByteArray).size=(Lib.itoa cm).length:=by simp[ByteArray.size]
 have em:(⟨(Lib.itoa m).toArray⟩:ByteArray).size=(Lib.itoa m).length:=by simp[ByteArray.size]
 have TZ:(⟨(Lib.itoa o).toArray⟩:ByteArray).data.toList=Lib.itoa o:=by simp
 have dc:(⟨(Lib.itoa cm).toArray⟩:ByteArray).data.toList=Lib.itoa cm:=by simp
 have dm:(⟨(Lib.itoa m).toArray⟩:ByteArray).data.toList=Lib.itoa m:=by simp
 generalize (⟨(Lib.itoa o).toArray⟩:ByteArray)=Ao at io eo TZ;generalize (⟨(Lib.itoa cm).toArray⟩:ByteArray)=Ac at ic ec dc;generalize (⟨(Lib.itoa m).toArray⟩:ByteArray)=Am at im em dm;refine dV io ?_;have z1:Ao.size+nn.size≤9223372036854775807:=by omega
 have s1:(⟨#[44]⟩:ByteArray).size=1:=rfl;have s2:(⟨#[40]⟩:ByteArray).size=1:=rfl;generalize dB:(⟨#[44]⟩:ByteArray)=K1 at s1;generalize dK:(⟨#[40]⟩:ByteArray)=K2 at s2;have z2:Ao.size+nn.size+K1.size≤9223372036854775807:=by omega
 have z3:Ao.size+nn.size+K1.size+Ac.size≤9223372036854775807:=by omega
 have z4:Ao.size+nn.size+K1.size+Ac.size+K1.size≤9223372036854775807:=by omega
 have z5:Ao.size+nn.size+K1.size+Ac.size+K1.size+Am.size≤9223372036854775807:=by omega
 have z6:Ao.size+nn.size+K1.size+Ac.size+K1.size+Am.size+K2.size≤9223372036854775807:=by omega
 simp[go_sem,cW,z1,z2];refine dV ic ?_;simp[go_sem,cW,z3,z4];refine dV im ?_;simp[go_sem,z5,z6];have d1:K1.data.toList=[44]:=by rw[← dB]
 have d2:K2.data.toList=[40]:=by rw[← dK]
 have Ny:(Ao++nn++K1++Ac++K1++Am++K2).data.toList=Lib.itoa o++(nn.data.toList++(44::(Lib.itoa cm++(44::(Lib.itoa m++[40]))))):=by
  simp[ByteArray.data_append,TZ,dc,dm,d1,d2]
 have hSs:(Ao++nn++K1++Ac++K1++Am++K2).size=Ao.size+nn.size+K1.size+Ac.size+K1.size+Am.size+K2.size:=by
  simp[ByteArray.size_append]
 generalize hS:Ao++nn++K1++Ac++K1++Am++K2=S at Ny hSs;have hE:∀k,k<nx→(h.put nx (some (bx 24 [.int .i64 o,.bs nn,.int .i64 cm,.int .i64 m,.fz 5 false (bU kids)] false 0))).get k=h.get k:=fun k hk=>by simp[go_sem,show ¬k=nx by omega]
 have hB2:so (h.put nx (some (bx 24 [.int .i64 o,.bs nn,.int .i64 cm,.int .i64 m,.fz 5 false (bU kids)] false 0))) (nx+1) a q l:=by
  obtain⟨b1,b2⟩:=hB;refine⟨by omega,?_⟩
  rcases b2 with⟨b2,b3⟩ |⟨b2,b3,b4,b5,b6⟩
  ·exact .inl ⟨b2,by rw[hE a b1];exact b3⟩
  ·exact .inr ⟨b2,by omega,b4,by rw[hE a b1];exact b5,by rw[hE q b3];exact b6⟩
 have I6:=hB.1;obtain⟨q2,rf,qao,hB3⟩:∃q2,(q2=q∨q2=a)∧q2<nx∧so (h.put nx (some (bx 24 [.int .i64 o,.bs nn,.int .i64 cm,.int .i64 m,.fz 5 false (bU kids)] false 0))) (nx+1) a q2 l:=by
  obtain⟨b1,b2⟩:=hB2
  rcases b2 with⟨b2,b3⟩ |b2
  ·exact⟨a,.inr rfl,I6,b1,.inl ⟨b2,b3⟩⟩
  ·refine⟨q,.inl rfl,?_,b1,.inr b2⟩
   rcases hB.2 with⟨e,_⟩ |⟨_,e,_⟩
   ·exact absurd e b2.1
   ·exact e
 refine zS4 _ _ a q2 l S (by omega) (by omega) hB3 _ fun v g ny q' c1 c2 c3 c4=>?_;have gx:g.get nx=some (bx 24 [.int .i64 o,.bs nn,.int .i64 cm,.int .i64 m,.fz 5 false (bU kids)] false 0):=by
  rw[c2 nx (by omega) (by omega) (by omega)];simp[go_sem]
 have hK:∀k,k<nx→k≠a→k≠q→g.get k=h.get k:=by
  intro k k1 k2 k3;rw[c2 k (by omega) k2 (by omega),hE k k1]
 obtain⟨l1,jI⟩:∃l1,l1=l++S.data.toList:=⟨_,rfl⟩;rw[← jI]at c4;have Ox:l1≠[]:=by
  intro e;have:=congrArg List.length jI;rw[e]at this;simp at this;omega
 have iL:l++iW (.mk o nn cm m kids)=l1++(gY kids++[41]):=by
  rw[jI,Ny];simp[iW]
 have hlen:l1.length+((gY kids).length+1)≤16000000:=by
  have:=congrArg List.length iL;simp only[List.length_append,List.length_cons,List.length_nil]at this;omega
 rw[iL]at hR;clear Ny iL jI o9 hl;simp[go_sem,aA,gx];refine bF (fun mm st=>∃tm h' ax k l2 q3,st=.mk tm h' ax []∧mm=kids.length-k∧k≤kids.length∧tm.get 0=some (.ptr a 0)∧tm.get 26=some (.fz 5 false (bU kids))∧tm.get 27=some (.int .i64 (kids.length:Int))∧tm.get 28=some (.int .i64 (k:Int))∧(∀k,k<nx→k≠a→k≠q→h'.get k=h.get k)∧nx<q3∧nx≤ax∧l2≠[]∧so h' ax a q3 l2∧RowKit.Hid (l2.length+((gY (kids.drop k)).length+1)≤16000000∧l1++gY kids=l2++gY (kids.drop k))) ⟨kids.length,_,_,_,0,l1,q',rfl,by simp,by simp,?_⟩ ?_
 ·simp[go_sem];exact⟨fun k k1 k2 k3=>hK k k1 k2 k3,by omega,by omega,Ox,c4,Lib.hid (by omega)⟩
 ·rintro mm st ⟨tm,h',ax,k,l2,q3,rfl,rfl,hk,t0,t26,t27,t28,pN,Vi,qY,AG,Un,hv⟩ J hJ
  refine bl ?_
  by_cases ay:k<kids.length
  ·obtain⟨s1',_,s3'⟩:=nX ay;obtain⟨aF,bg⟩:=hv.out;have hd:kids.drop k=kids[k]::kids.drop (k+1):=aj ay;rw[hd,gY]at aF bg;have Nh:=Yq hIk _ (ah ay);rw[List.length_append]at aF;have GO:(l2++iW kids[k]).length+((gY (kids.drop (k+1))).length+1)≤16000000:=by rw[List.length_append];omega
   have vh:l1++gY kids=(l2++iW kids[k])++gY (kids.drop (k+1)):=by rw[bg,List.append_assoc]
   have HD:=Lib.hid (And.intro GO vh);have eB:l2.length+(iW kids[k]).length≤16000000:=(by omega);clear aF bg GO vh hd;simp[go_sem,t0,t26,t27,t28,ay];have wm:∀x y,∀k,k<ax→((h'.put ax x).put ax y).get k=h'.get k:=fun x y k hk=>by simp[go_sem,show ¬k=ax by omega]
   have CN:∀x y,so ((h'.put ax x).put ax y) (ax+1) a q3 l2:=by
    intro x y;obtain⟨b1,⟨b2,_⟩ |⟨b2,b3,b4,b5,b6⟩⟩:=Un
    ·exact absurd b2 AG
    ·exact⟨by omega,.inr ⟨b2,by omega,b4,by rw[wm x y a b1];exact b5,by rw[wm x y q3 b3];exact b6⟩⟩
   refine ih kids[k] l2 _ _ q3 _ (by omega) (by omega) Nh (CN _ _) eB fun v g3 yR q4 e1 e2 e3 e4=>?_;simp[go_sem,aA,t28];refine hJ (kids.length-(k+1)) _ (by omega) ⟨_,_,_,k+1,l2++iW kids[k],q4,rfl,rfl,by omega,?_⟩;simp(disch:=omega) [go_sem,t0,t26,t27,aS];refine⟨fun k1 k2 k3 k4=>?_,by omega,by omega,?_,e4,?_⟩
   ·rw[e2 k1 (by omega) k3 (by omega),wm _ _ k1 (by omega)];exact pN k1 k2 k3 k4
   ·simp[AG]
   ·exact Lib.hid (by have:=HD.out;simpa using this)
  ·obtain⟨aF,bg⟩:=hv.out;rw[al (by omega),gY]at aF bg;simp at aF bg;have h41:((41:UInt8).toNat:Int)=41:=rfl;simp[go_sem,t0,t27,t28,ay];refine zJo h' ax a q3 l2 41 (by omega) AG Un _ fun v g3 yR q4 e1 e2 e3 e4=>?_;simp[go_sem,aA];refine hR _ g3 yR q4 (by omega) (fun k1 k2 k3 k4=>?_) (.inr (by omega)) ?_
   ·rw[e2 k1 (by omega) k3 (by omega)];exact pN k1 k2 k3 k4
   ·rw[← List.append_assoc,bg];exact e4
end
section
open Go.Proofs
attribute [-go_sem] dN bX
def zSk:cx.ft.get 202=some Tryz.f202:=aO
def iy (f:Fc) (x:Int):Bool:=decide (x<f.lo) || decide (f.hi<x)
def zTk:cx.ft.get 199=some Tryz.f199:=aO
mutual
def gW (nm:ByteArray):List Int→Fm→List Int
 |L,.mk o n _ m kids=>iT nm (if o=3∧n=nm then L++[m,IntKind.i64.wrap (m+1)] else L) kids
def iT (nm:ByteArray):List Int→List Fm→List Int
 |L,[]=>L
 |L,f::l=>iT nm (gW nm L f) l
end
mutual
def B9 (nm:ByteArray):∀(f:Fm)(L:List Int),(gW nm L f).length≤L.length+2 * f.size
 |.mk o n c m kids,L=>by
  rw[gW];have:=zzz nm kids (if o=3∧n=nm then L++[m,IntKind.i64.wrap (m+1)] else L);have h2:(if o=3∧n=nm then L++[m,IntKind.i64.wrap (m+1)] else L).length≤L.length+2:=by split <;> simp
  simp only[Fm.size];omega
def zzz (nm:ByteArray):∀(l:List Fm)(L:List Int),(iT nm L l).length≤L.length+2 * bd l
 |[],L=>by simp[iT,bd]
 |f::l,L=>by
  rw[iT];have h1:=B9 nm f L;have h2:=zzz nm l (gW nm L f);simp only[bd];omega
end
def mS (p q nx:Nat)(h g:Tr ABlk):Prop:=∀k,k<nx→k≠p→k≠q→g.get k=h.get k
def RE {p q nx:Nat}{h g:Tr ABlk}{j:Nat}{B:Option ABlk}(hj:nx≤j∨j=p∨j=q):mS p q nx h (g.put j B)↔mS p q nx h g:=by
 constructor
 ·intro e k hk h1 h2;have:=e k hk h1 h2;rw[Tr.get_put,if_neg (by omega)]at this;exact this
 ·intro e k hk h1 h2;rw[Tr.get_put,if_neg (by omega)];exact e k hk h1 h2
def mS.trans {p q q' nx ny:Nat}{h g f:Tr ABlk}(a:mS p q nx h g)(hl:nx≤ny)(hq:q'=q∨nx≤q')(b:mS p q' ny g f):mS p q nx h f:=fun k hk h1 h2=>by
 rw[b k (by omega) h1 (by omega),a k hk h1 h2]
structure oK (x:Fc) (a p s q:Nat)(L:List Int)(h:Tr ABlk) (nx:Nat):Prop where
 la:a<nx
 lp:p<nx
 ls:s<nx
 lq:q<nx
 n1:a≠p
 n2:a≠q
 n3:s≠p
 n4:s≠q
 n5:p≠q
 ga:h.get a=some (bx 65 x.cs false 0)
 gpq:∃op:Bool,h.get p=some (bx 40 [.sl q 0 L.length (if op then 0 else L.length) op] false 0)∧h.get q=some (bx 3 (aG L) op (if op then 1 else 0))
 gs:h.get s=some (bx 228 [.func 199 [] [.ptr a 0,.ptr p 0,.ptr s 0]] false 0)
def oK.mono {x:Fc}{a p s q:Nat}{L:List Int}{h g:Tr ABlk}{nx ny:Nat}(S:oK x a p s q L h nx)(e:az nx h g)(hn:nx≤ny):oK x a p s q L g ny:=by
 obtain⟨la,lp,ls,lq,n1,n2,n3,n4,n5,ga,⟨op,gp,gq⟩,gs⟩:=S;refine⟨by omega,by omega,by omega,by omega,n1,n2,n3,n4,n5,?_,⟨op,?_,?_⟩,?_⟩
 all_goals rw[e _ (by omega)];assumption
def mS.ext {p q nx ny:Nat}{h g f:Tr ABlk}(a:mS p q nx h g)(hl:nx≤ny)(b:az ny g f):mS p q nx h f:=fun k hk h1 h2=>by rw[b k (by omega),a k hk h1 h2]
def zFx (x:Fc) (a p s n:Nat):∀(f:Fm)(L:List Int)(h:Tr ABlk) (nx q:Nat)(R:AV→Tr ABlk→Nat→Prop),f.size≤n→n≤1000000→L.length+2 * f.size≤10000000→oK x a p s q L h nx→(∀g ny q',mS p q nx h g→(q'=q∨nx≤q')→nx≤ny→oK x a p s q' (gW x.name L f) g ny→R (.tup []) g ny)→di 199 [.agg f.cs,.ptr a 0,.ptr p 0,.ptr s 0] h nx R:=by
 induction n with
 |zero=>intro f L h nx q R hf;cases f;simp[Fm.size]at hf
 |succ n ih=>
 rintro⟨o,nn,cm,m,kids⟩ L h nx q R hf hn hL S hR
 simp only[Fm.size]at hf hL;simp only[gW]at hR;refine aP zTk (sz:=36) (rs:=[]) ?_;have lI:=sI kids;obtain⟨la,lp,ls,lq,n1,n2,n3,n4,n5,ga,⟨op,gp,gq⟩,gs⟩:=S;obtain⟨xn,xk,jL,mz⟩:=x;simp only[Fc.cs]at ga;have d1:¬a=nx:=by omega
 have d2:¬p=nx:=by omega
 have d3:¬s=nx:=by omega
 have d4:¬q=nx:=by omega
 have d5:¬nx=p:=by omega
 have d6:¬nx=q:=by omega
 by_cases e3:o=3∧nn=xn
 case' pos=>
  obtain⟨e3,en⟩:=e3;rw[if_pos ⟨e3,by exact en⟩]at hR
  replace en:=en.symm
  subst en;have fo:=vU L;have iO:L.length+2≤16777216:=by omega
  have d7:¬q=nx+1:=by omega
  have d8:¬p=nx+1:=by omega
  have d9:¬p=nx+1+1:=by omega
  have d10:¬p=q:=n5;have d11:¬nx=nx+1+1:=by omega
  cases op
  case' false=>simp only[if_false,Bool.false_eq_true]at gp gq
  case' true=>simp only[if_true]at gp gq
  all_goals
   simp[go_sem,e3,Fm.cs,d1,d2,d4,d5,d6,d7,d8,d9,d10,d11,ga,gp,gq,aI,iO];generalize cY:Tr.put _ p _=h0;obtain⟨V0,lu⟩:∃V0,V0=L++[m,IntKind.i64.wrap (m+1)]:=⟨_,rfl⟩;have tT:V0.length≤L.length+2:=by rw[lu];simp
   rw[← lu]at hR;obtain⟨q0,re⟩:∃q0,q0=nx+1+1:=⟨_,rfl⟩;have Dd:q0=q∨nx≤q0:=by omega
   have hB:mS p q nx h h0:=by
    rw[← cY];simp(disch:=omega)only[RE];exact fun _ _ _ _=>rfl
   have hS:oK ⟨xn,xk,jL,mz⟩ a p s q0 V0 h0 (nx+1+1+1):=by
    have a1:¬a=nx+1:=(by omega);have a2:¬a=nx+1+1:=(by omega);have a3:¬s=nx+1:=(by omega);have a4:¬s=nx+1+1:=(by omega);have a5:¬nx+1+1=p:=(by omega);refine⟨by omega,by omega,by omega,by omega,n1,by omega,n3,by omega,by omega,?_,⟨true,?_,?_⟩,?_⟩
    all_goals (rw[← cY];simp[go_sem,a1,a2,a3,a4,a5,n1,n2,n3,n4,d1,d3,ga,gs,re,lu,Fc.cs,aG])
   have gx:h0.get nx=some (bx 24 [.int .i64 3,.bs xn,.int .i64 cm,.int .i64 m,.fz 5 false (bU kids)] false 0):=by
    rw[← cY];simp[go_sem,d5,d6,d11]
   clear cY
 case' neg=>
  rw[if_neg e3]at hR;have eU:(o=3∧¬nn=xn)∨¬o=3:=by
   by_cases e:o=3
   ·exact .inl ⟨e,fun q=>e3 ⟨e,q⟩⟩
   ·exact .inr e
  have fin:∀h0,h0=h.put nx (some (bx 24 [.int .i64 o,.bs nn,.int .i64 cm,.int .i64 m,.fz 5 false (bU kids)] false 0))→mS p q nx h h0∧oK ⟨xn,xk,jL,mz⟩ a p s q L h0 (nx+1)∧h0.get nx=some (bx 24 [.int .i64 o,.bs nn,.int .i64 cm,.int .i64 m,.fz 5 false (bU kids)] false 0):=by
   rintro _ rfl
   refine⟨?_,oK.mono ⟨la,lp,ls,lq,n1,n2,n3,n4,n5,ga,⟨op,gp,gq⟩,gs⟩ ((az.refl nx h).put (ae _) _) (by omega),by simp[go_sem]⟩;simp(disch:=omega)only[RE];exact fun _ _ _ _=>rfl
  obtain⟨q0,re⟩:∃q0,q0=q:=⟨_,rfl⟩;obtain⟨V0,lu⟩:∃V0,V0=L:=⟨_,rfl⟩;have tT:V0.length≤L.length+2:=by rw[lu];omega
  rw[← lu]at hR;have Dd:q0=q∨nx≤q0:=by omega
  have key:∀h0,mS p q nx h h0→oK ⟨xn,xk,jL,mz⟩ a p s q0 V0 h0 (nx+1)→True:=fun _ _ _=>trivial;clear key
  rcases eU with⟨e3,en⟩ |e3
  case' inl=>
   simp[go_sem,e3,en,Fm.cs,d1,ga];obtain⟨hB,hS,gx⟩:=fin _ rfl;rw[← re,← lu]at hS;simp only[e3]at hB hS gx;generalize h.put nx (some (bx 24 [.int .i64 3,.bs nn,.int .i64 cm,.int .i64 m,.fz 5 false (bU kids)] false 0))=h0 at hB hS gx
  case' inr=>
   simp[go_sem,e3,Fm.cs];obtain⟨hB,hS,gx⟩:=fin _ rfl;rw[← re,← lu]at hS;generalize h.put nx (some (bx 24 [.int .i64 o,.bs nn,.int .i64 cm,.int .i64 m,.fz 5 false (bU kids)] false 0))=h0 at hB hS gx
 all_goals
  refine bF (fun mm st=>∃tm h' ax k V q',st=.mk tm h' ax []∧mm=kids.length-k∧k≤kids.length∧tm.get 3=some (.ptr s 0)∧tm.get 26=some (.fz 5 false (bU kids))∧tm.get 27=some (.int .i64 (kids.length:Int))∧tm.get 28=some (.int .i64 (k:Int))∧mS p q nx h h'∧(q'=q∨nx≤q')∧oK ⟨xn,xk,jL,mz⟩ a p s q' V h' ax∧nx≤ax∧RowKit.Hid (V.length+2 * bd (kids.drop k)≤10000000∧iT xn V0 kids=iT xn V (kids.drop k))) ⟨kids.length,_,_,_,0,V0,q0,rfl,by simp,by simp,?_⟩ ?_
  ·simp[go_sem,hB,Dd,hS]
   first |refine⟨by omega,Lib.hid ?_⟩ |refine Lib.hid ?_
   have:=tT;omega
  ·rintro mm st ⟨tm,h',ax,k,V,q',rfl,rfl,hk,t3,t26,t27,t28,sV,ra,l4,ei,hv⟩ J hJ
   refine bl ?_
   by_cases ay:k<kids.length
   ·obtain⟨s1,_,s3⟩:=nX ay;obtain⟨aF,bg⟩:=hv.out;have hd:kids.drop k=kids[k]::kids.drop (k+1):=aj ay;rw[hd]at aF bg;simp only[bd,iT]at aF bg;have cS:=B9 xn kids[k] V;have HD:=Lib.hid (And.intro (show (gW xn V kids[k]).length+2 * bd (kids.drop (k+1))≤10000000 by omega) bg);have eB:V.length+2 * kids[k].size≤10000000:=by omega
    clear aF bg cS hd;have zP:=l4.gs;have Pw:=l4.ls;have m1:¬s=ax:=by omega
    simp[go_sem,t3,t26,t27,t28,ay,zP,m1];have og:∀x y,az ax h' ((h'.put ax x).put ax y):=fun x y=>((az.refl ax h').put (ae _) _).put (ae _) _;refine ih kids[k] V _ _ q' _ (by omega) (by omega) eB (l4.mono (og _ _) (by omega)) fun g ny q2 b1 b2 b3 b4=>?_;simp[go_sem,aA,t28];refine hJ (kids.length-(k+1)) _ (by omega) ⟨_,_,_,k+1,gW xn V kids[k],q2,rfl,rfl,by omega,?_⟩;simp(disch:=omega) [go_sem,t3,t26,t27,aS];exact⟨(sV.ext ei (og _ _)).trans (by omega) (by omega) b1,by omega,b4,by omega,HD⟩
   ·simp[go_sem,t27,t28,ay];refine hR _ _ q' sV ra (by omega) ?_;have:=hv.out.2;rw[al (by omega),iT]at this;rw[this];exact l4
end
section
open Go.Proofs Go.RowKit
def zHf (b o:Nat) (lo hi x:Int)(W:World)(h2:W.cell? ⟨b,o+2,none⟩=some (.int .i64 lo))(h3:W.cell? ⟨b,o+3,none⟩=some (.int .i64 hi)):
  Calls Tryz.prog 202 #[.int .i64 x,.pointer (some ⟨b,o,none⟩)] W fun e w'=>e=.returned (.bool (decide (x<lo) || decide (hi<x)))∧w'=W:=by
 go_enter Tryz.func202,Tryz.ntmps202
 go_wp2
 ·go_ret
  rename_i hx;exact⟨by simp,rfl⟩
 ·go_ret
  exact⟨rfl,rfl⟩
open Go.Sort in
def YE {W:World}{b o:Nat}{C:Array Value}{t:TypeId}{fr:Nat×Nat}{V:Value}(h:W.heap[b]?=some (.cells C t fr))(hv:C[o]?=some V):W.cell? ⟨b,o,none⟩=some V:=by
 simp[World.cell?,h,hv]
def zOq:cx.ft.get 201=some Tryz.f201:=aO
def zH9:cx.ft.get 203=some Tryz.f203:=aO
open Go.Sort in
def zG4 (f:Fc)(L:List Int)(h:Tr ABlk) (nx q cp esz:Nat)(opn bD:Bool)(hq:h.get q=some (bx 3 (aG L) bD esz))(hl:L.length<1000000000)(R:AV→Tr ABlk→Nat→Prop)
  (hR:R (.sl q 0 (L.filter fun x=>!iy f x).length cp opn) (h.put q (some (bx 3 (aG ((L.filter fun x=>!iy f x)++List.replicate (L.length-(L.filter fun x=>!iy f x).length) 0)) bD esz))) nx):di 201 [.sl q 0 L.length cp opn,.func 202 [] [.ip f.cs]] h nx R:=by
 refine R4 iQ zOq (fun x:Int=>AV.int .i64 x) (Value.int .i64) (fun σ x V=>Rv σ x V) (l:=L) (rest:=[.func 202 [] [.ip f.cs]]) hq (by omega) (fun d u=>d=(L.filter fun x=>!iy f x)++List.replicate (L.length-(L.filter fun x=>!iy f x).length) 0∧u=.sl q 0 (L.filter fun x=>!iy f x).length cp opn) ?_ ?_
 ·intro σ w RA b cap hk qK hH hb Ah fh aX;rw[List.drop_zero,List.take_length]at hH;simp only[aC,av]at qK;obtain⟨V,RA',rfl,⟨A,Cc,rfl,rfl,V1,L1,rfl,⟨b0,o0,C,LL,rfl,hi,Nq,IZ⟩,rfl⟩,rfl⟩:=qK;obtain⟨⟨t,fr,aE⟩,A1⟩:=hk.imm b0 C hi;have aT:b0≠b:=fun e=>A1 q _ hq (e ▸ Ah);have gw:b0<w.heap.size:=BZ aE;have lB:C[o0+2]?=some (.int .i64 f.lo)∧C[o0+3]?=some (.int .i64 f.hi):=by
   simp only[Fc.cs,aC,av]at Nq;obtain⟨W0,L0,rfl,e0,W1,L1,rfl,e1,W2,L2,rfl,e2,W3,L3,rfl,e3,rfl⟩:=Nq;subst e2;subst e3;have h2:=congrArg (fun l:List Value=>l[2]?) IZ;have h3:=congrArg (fun l:List Value=>l[3]?) IZ;simp[List.getElem?_drop]at h2 h3;exact⟨h2.symm,h3.symm⟩
  have key:∀(W:World),W.heap[b0]?=w.heap[b0]?→∀x:Int,Calls Tryz.prog 202 #[.int .i64 x,.pointer (some ⟨b0,o0,none⟩)] W fun e w'=>e=.returned (.bool (iy f x))∧w'=W:=by
   intro W hW x;rw[aE]at hW;exact zHf b0 o0 f.lo f.hi x W (YE hW (by simpa using lB.1)) (YE hW (by simpa using lB.2))
  have hc:=AnyE.slices_DeleteFunc Tryz.delete201 (Value.int .i64) (fun _=>rfl) (iy f) 202 #[.pointer (some ⟨b0,o0,none⟩)] ?_ 0 ?_ b 0 cap L.toArray w ?_ ?_ hH (by simp;omega) (by simpa using aX)
  ·rw[List.size_toArray]at hc;refine hc.mono ?_
   rintro e x ⟨rfl,n,rfl⟩
   refine⟨_,.sl q 0 (L.filter fun x=>!iy f x).length cp opn,n,#[],(L.filter fun x=>!iy f x)++List.replicate (L.length-(L.filter fun x=>!iy f x).length) 0,rfl,?_,?_,⟨rfl,rfl⟩,by simp⟩
   ·simp only[av];have:=List.length_filter_le (fun x=>!iy f x) L;exact⟨b,Ah,by rw[fh],by rw[← fh];omega⟩
   ·have:=List.length_filter_le (fun x=>!iy f x) L;simp;omega
  ·exact(iQ.ft 202 _ zSk).2
  ·intro w;exact Tryz.zeroValue3 w
  ·intro W x hB;refine(key W (hB.block b0 gw) x).mono ?_
   rintro e w' ⟨rfl,rfl⟩
   exact⟨rfl,0,rfl⟩
  ·intro n os dk x hdk;refine(key _ ?_ x).mono ?_
   ·unfold sortWorld;rw[heap_grow_old _ _ (by simpa[putRow,mapBlock,Go.Sort.ahead]using gw)];simp only[putRow,mapBlock,Go.Sort.ahead,Array.getElem?_modify];rw[if_neg (fun e=>aT e.symm)]
   ·rintro e w' ⟨rfl,rfl⟩
    exact⟨rfl,0,rfl⟩
 ·rintro d u _ ⟨rfl,rfl⟩
  have e1:L.take 0++(((L.filter fun x=>!iy f x)++List.replicate (L.length-(L.filter fun x=>!iy f x).length) 0)++L.drop (0+L.length))=(L.filter fun x=>!iy f x)++List.replicate (L.length-(L.filter fun x=>!iy f x).length) 0:=by simp
  rw[e1];exact hR
def fZ (L:List Int):List Int:=Lib.compact L
def Ty (L:List Int):(fZ L).length≤L.length:=by
 have:=List.length_filter_le (Lib.keeps L.toArray) (List.range L.length);simpa[fZ,Lib.compact,Lib.compactUpTo]using this
open Go.Sort in
def Zf (L r:List Int)(h:Tr ABlk) (nx q cp esz:Nat)(opn bD:Bool)(hq:h.get q=some (bx 3 (aG (L++r)) bD esz))(hl:L.length<1000000000)(R:AV→Tr ABlk→Nat→Prop)
  (hR:∀r',R (.sl q 0 (fZ L).length cp opn) (h.put q (some (bx 3 (aG (fZ L++r')) bD esz))) nx):di 203 [.sl q 0 L.length cp opn] h nx R:=by
 refine R4 iQ zH9 (fun x:Int=>AV.int .i64 x) (Value.int .i64) (fun σ x V=>Rv σ x V) (l:=L++r) (rest:=[]) hq (by simp) (fun d u=>d=fZ L++List.replicate (L.length-(fZ L).length) 0∧u=.sl q 0 (fZ L).length cp opn) ?_ ?_
 ·intro σ w RA b cap hk qK hH hb Ah fh aX;simp only[aC]at qK;subst qK;rw[List.drop_zero,List.take_left]at hH;refine(Any.slices_Compact_int Tryz.lays2n20 b 0 cap L w hH (by omega) aX).mono ?_
  rintro e x ⟨rfl,n,rfl⟩
  have hle:=Ty L;refine⟨_,.sl q 0 (fZ L).length cp opn,n,#[],fZ L++List.replicate (L.length-(fZ L).length) 0,rfl,?_,by simp;omega,⟨rfl,rfl⟩,by simp[fZ]⟩;simp only[av];exact⟨b,Ah,by rw[fh];rfl,by rw[← fh];omega⟩
 ·rintro d u _ ⟨rfl,rfl⟩
  have e1:(L++r).take 0++((fZ L++List.replicate (L.length-(fZ L).length) 0)++(L++r).drop (0+L.length))=fZ L++(List.replicate (L.length-(fZ L).length) 0++r):=by simp
  rw[e1];exact hR _
end
section
open Go.Proofs Go.RowKit
attribute [-go_sem] dN bX fC
def zLi:cx.ft.get 143=some Tryz.f143:=aO
def fQ (f:Fm)(x:Fc):List Int:=fZ ((dG (gW x.name [x.lo] f)).filter fun y=>!iy x y)
def zyu {g:Tr ABlk}{nx b:Nat}{s r:List Int}{cp esz:Nat}{op opn:Bool}(hb:nx≤b)(hg:g.get b=some (bx 3 (aG (s++r)) opn esz)):Fz g nx (.sl b 0 s.length cp op) (.fz 1 false (aG s)):=
 .slz b 0 _ cp op 3 _ _ opn esz 1 (aG s) (aG s) (aG s) hb hg (by simp[aG]) (fun j hj=>by
  rw[Nat.zero_add,fX];have fm:j<s.length:=by simpa[aG]using hj
  simp only[aG,List.map_append];rw[List.getElem?_append_left (by simpa using fm)]) (cE.same _ (vP s)) (LP s) (Kk s)
def zGv (f:Fm)(x:Fc)(hf:f.size≤1000000):aM 143 [.agg f.cs,.agg x.cs] (.fz 1 false (aG (fQ f x))):=by
 refine aB.mk fun h nx R hR=>aP zLi (sz:=21) (rs:=[.tmp 4]) ?_;obtain⟨xn,xk,jL,mz⟩:=x;obtain⟨cK,bn⟩:∃l,l=f.cs:=⟨_,rfl⟩;have iK:cK.length=5:=by rw[bn];cases f;rfl
 rw[← bn];have z1:¬nx+1=nx+1+1:=by omega
 have z2:¬nx=nx+2+1:=by omega
 have z3:¬nx=nx+2+1+1:=by omega
 have z4:¬nx=nx+1+1:=by omega
 have bO:cK.take 5=cK:=ar (by omega);simp[go_sem,Fc.cs,aI,iK,z2,z3,z4,bO];generalize cY:Tr.put _ (nx+2+1+1) (some (bx 228 [AV.func 199 _ _] false 0))=h0;have E0:az nx h h0:=by
  rw[← cY];simp(disch:=omega)only[aK,az.refl]
 have hS:oK ⟨xn,xk,jL,mz⟩ (nx+1) (nx+3) (nx+4) (nx+2) [jL] h0 (nx+5):=by
  refine⟨by omega,by omega,by omega,by omega,by omega,by omega,by omega,by omega,by omega,?_,⟨false,?_,?_⟩,?_⟩
  all_goals (rw[← cY];simp(disch:=omega) [go_sem,Fc.cs,aG])
 clear cY;rw[bn];refine zFx ⟨xn,xk,jL,mz⟩ (nx+1) (nx+3) (nx+4) f.size f [jL] h0 (nx+5) (nx+2) _ (ae _) hf (by simp;omega) hS fun g ny q c1 c2 c3 c4=>?_;have cS:=B9 xn f [jL];have aH:fQ f ⟨xn,xk,jL,mz⟩=fZ ((dG (gW xn [jL] f)).filter fun y=>!iy ⟨xn,xk,jL,mz⟩ y):=rfl;rw[aH]at hR;have E1:az nx h g:=fun k hk=>by rw[c1 k (by omega) (by omega) (by omega)];exact E0 k hk
 obtain⟨_,_,_,lq,_,m1,_,_,m2,ga,⟨op,gp,gq⟩,_⟩:=c4;simp only at gp gq cS;generalize gW xn [jL] f=L1 at *;generalize (if op then 0 else L1.length)=cp at gp;generalize (if op then 1 else 0)=esz at gq;clear c1 E0 hS;simp only[List.length_cons,List.length_nil]at cS;have Jn:nx≤q:=by omega
 simp[go_sem,aA,gp];refine zzk L1 g ny q cp esz op op gq (by omega) _ ?_;have k1:¬nx+3=q:=by omega
 simp[go_sem,aA,gp,k1];have lI:=Ie L1;have hga:(g.put q (some (bx 3 (aG (dG L1)) op esz))).get (nx+1)=some (bx 65 [.bs xn,.int .i64 xk,.int .i64 jL,.int .i64 mz] false 0):=by
  simp[go_sem,show ¬nx+1=q by omega];exact ga
 refine Hu (fun a=>a∈[nx+1]) (iG.kill _) (args':=[.sl q 0 L1.length cp op,.func 202 [] [.ip (Fc.cs ⟨xn,xk,jL,mz⟩)]]) ?_ ?_
 ·refine .cons _ _ _ _ (.same _) (.cons _ _ _ _ (.func _ _ _ _ _ .nil (.cons _ _ _ _ (.pin _ _ 65 4 _ false 0 [.bs xn,.int .i64 xk,.int .i64 jL,.int .i64 mz] _ (by simp) hga (by simp) (fun j hj=>by rw[Nat.zero_add,fX]) (dJ.same _)) .nil)) .nil)
 have wi:(jA (g.put q (some (bx 3 (aG (dG L1)) op esz))) [nx+1]).get q=some (bx 3 (aG (dG L1)) op esz):=by
  rw[oF (by simp;omega)];simp[go_sem]
 rw[← lI];refine zG4 ⟨xn,xk,jL,mz⟩ (dG L1) _ ny q cp esz op op wi (by omega) _ ?_;have A2:∀B,((jA (g.put q (some (bx 3 (aG (dG L1)) op esz))) [nx+1]).put q B).get (nx+3)=some (bx 40 [.sl q 0 L1.length cp op] false 0):=by
  intro B;rw[Tr.get_put,if_neg k1,oF (by simp),Tr.get_put,if_neg k1];exact gp
 have E2:∀B,az nx h ((jA (g.put q (some (bx 3 (aG (dG L1)) op esz))) [nx+1]).put q B):=by
  intro B k hk;rw[Tr.get_put,if_neg (by omega),oF (by simp;omega),Tr.get_put,if_neg (by omega)];exact E1 k hk
 have ij:=List.length_filter_le (fun y=>!iy ⟨xn,xk,jL,mz⟩ y) (dG L1);generalize sY:(dG L1).filter (fun y=>!iy ⟨xn,xk,jL,mz⟩ y)=L2 at *;generalize List.replicate ((dG L1).length-L2.length) (0:Int)=r2 at *;have MO:((jA (g.put q (some (bx 3 (aG (dG L1)) op esz))) [nx+1]).put q (some (bx 3 (aG (L2++r2)) op esz))).get q=some (bx 3 (aG (L2++r2)) op esz):=by simp[go_sem]
 have O0:=A2 (some (bx 3 (aG (L2++r2)) op esz));have E3:=E2 (some (bx 3 (aG (L2++r2)) op esz));generalize (jA (g.put q (some (bx 3 (aG (dG L1)) op esz))) [nx+1]).put q (some (bx 3 (aG (L2++r2)) op esz))=g5 at *;simp[go_sem,aA,O0,aI];refine Zf L2 r2 _ ny q cp esz op op (by simp[go_sem,show ¬q=nx+3 by omega,MO]) (by omega) _ fun r'=>?_;simp[go_sem,aA];refine hR _ _ _ ?_ (zyu (opn:=op) (esz:=esz) (r:=r') Jn (by simp[go_sem]));simp(disch:=omega)only[aK];exact E3
end
section
open Go.Proofs Go.RowKit
mutual
def iY:Fm→Prop
 |.mk o n c m kids=>dh o∧dh c∧dh m∧n.size≤1000∧(o=5→kids≠[])∧kF kids
def kF:List Fm→Prop
 |[]=>True
 |f::l=>iY f∧kF l
end
def zzn:∀{l:List Fm},kF l→∀f∈l,iY f
 |[],_,f,h=>by cases h
 |x::l,hl,f,h=>by
  rcases List.mem_cons.1 h with rfl |h
  ·exact hl.1
  ·exact zzn hl.2 f h
def zFf:∀{l:List Fm},(∀f∈l,iY f)→kF l
 |[],_=>trivial
 |x::l,h=>⟨h x aq,zFf fun f hf=>h f (an _ hf)⟩
mutual
def iY.I:∀{f:Fm},iY f→EG f
 |.mk o n c m kids,h=>⟨h.1,h.2.1,h.2.2.1,kF.I h.2.2.2.2.2⟩
def kF.I:∀{l:List Fm},kF l→KB l
 |[],_=>trivial
 |f::l,h=>⟨iY.I h.1,kF.I h.2⟩
end
mutual
def iY.notOk:∀{f:Fm},iY f→notOk f
 |.mk o n c m kids,h=>⟨h.2.2.2.2.1,kF.notOk h.2.2.2.2.2⟩
def kF.notOk:∀{l:List Fm},kF l→Kv l
 |[],_=>trivial
 |f::l,h=>⟨iY.notOk h.1,kF.notOk h.2⟩
end
mutual
def iY.spell:∀{f:Fm},iY f→(iW f).length≤1100 * f.size
 |.mk o n c m kids,h=>by
  obtain⟨h1,h2,h3,h4,_,h6⟩:=h;have a1:=xw o h1;have a2:=xw c h2;have a3:=xw m h3;have a4:=kF.spell h6;simp[iW,Fm.size];omega
def kF.spell:∀{l:List Fm},kF l→(gY l).length≤1100 * bd l
 |[],_=>by simp[gY]
 |f::l,h=>by
  have a1:=iY.spell h.1;have a2:=kF.spell h.2;simp[gY,bd];omega
end
def sf {n:Int}(h1:0≤n)(h2:n≤10):dh n:=⟨by omega,by omega⟩
def Z5 (b:Bool):iY (lj b)∧(lj b).size=1:=by
 cases b <;> exact⟨⟨sf (by simp) (by simp),sf (by simp) (by simp),sf (by simp) (by simp),by simp,by simp,trivial⟩,rfl⟩
def Fm.size_pos (f:Fm):1≤f.size:=by cases f;simp[Fm.size]
def zJy (l m:List Fm):bd (l++m)=bd l+bd m:=by
 induction l with
 |nil=>simp[bd]
 |cons x l ih=>simp[bd,ih];omega
def K8 {o u z:Int}(ho:dh o)(h5:o≠5)(hu:0≤u∧u≤2):∀(l acc:List Fm),kF acc→kF l→iY (fA o u z acc l)∧(fA o u z acc l).size≤1+bd acc+bd l
 |[],acc,ha,_=>by
  match acc,ha with
  |[],_=>
   have e:fA o u z [] []=.mk u .empty 0 0 []:=rfl;rw[e];exact⟨⟨sf hu.1 (by omega),sf (by simp) (by simp),sf (by simp) (by simp),by simp,by omega,trivial⟩,by simp[Fm.size,bd]⟩
  |[k],ha=>
   have e:fA o u z [k] []=k:=rfl;rw[e];exact⟨ha.1,by simp[bd]⟩
  |k1::k2::ks,ha=>
   have e:fA o u z (k1::k2::ks) []=.mk o .empty 0 0 (k1::k2::ks):=rfl;rw[e];exact⟨⟨ho,sf (by simp) (by simp),sf (by simp) (by simp),by simp,fun e=>absurd e h5,ha⟩,by simp[Fm.size,bd]⟩
 |k::l,acc,ha,hl=>by
  rw[fA]
  by_cases e1:k.op=z
  ·rw[if_pos e1];exact⟨hl.1,by simp[bd];omega⟩
  ·rw[if_neg e1]
   by_cases e2:k.op=u
   ·rw[if_pos e2];obtain⟨a1,a2⟩:=K8 (z:=z) ho h5 hu l acc ha hl.2;exact⟨a1,by simp[bd];omega⟩
   ·rw[if_neg e2];obtain⟨a1,a2⟩:=K8 (z:=z) ho h5 hu l (acc++[k]) (zFf fun f hf=>by
     rcases List.mem_append.1 hf with q |q
     ·exact zzn ha f q
     ·simp at q;subst q;exact hl.1) hl.2
    refine⟨a1,?_⟩;rw[zJy]at a2;simp[bd]at a2 ⊢;omega
mutual
def Cm (nm:ByteArray) (v:Int):∀{f:Fm},iY f→iY (bY nm v f)∧(bY nm v f).size≤f.size
 |.mk o n c m kids,h=>by
  have hp:=Fm.size_pos (.mk o n c m kids);rw[bY]
  by_cases e3:o=3
  ·rw[if_pos e3]
   by_cases en:n=nm
   ·rw[if_pos en];obtain⟨a1,a2⟩:=Z5 (js v c m);exact⟨a1,by omega⟩
   ·rw[if_neg en];exact⟨h,ae _⟩
  ·rw[if_neg e3];obtain⟨b1,b2⟩:=Ym nm v h.2.2.2.2.2
   by_cases e5:o=5
   ·rw[if_pos e5]
    match hk:jD nm v kids with
    |[]=>exact⟨h,ae _⟩
    |k::ks=>
     rw[hk]at b1 b2;simp only
     by_cases ek:k.op=1∨k.op=2
     ·rw[if_pos ek];obtain⟨a1,a2⟩:=Z5 (decide (k.op=2));exact⟨a1,by omega⟩
     ·rw[if_neg ek];refine⟨⟨sf (by simp) (by simp),sf (by simp) (by simp),sf (by simp) (by simp),by simp,by simp,b1.1,trivial⟩,?_⟩;simp[Fm.size,bd]at b2 ⊢;omega
   ·rw[if_neg e5]
    by_cases e6:o=6
    ·rw[if_pos e6];obtain⟨a1,a2⟩:=K8 (z:=2) h.1 e5 (u:=1) (by simp) (jD nm v kids) [] trivial b1;refine⟨a1,?_⟩;simp[bd]at a2;simp[Fm.size];omega
    ·rw[if_neg e6]
     by_cases e7:o=7
     ·rw[if_pos e7];obtain⟨a1,a2⟩:=K8 (z:=1) h.1 e5 (u:=2) (by simp) (jD nm v kids) [] trivial b1;refine⟨a1,?_⟩;simp[bd]at a2;simp[Fm.size];omega
     ·rw[if_neg e7];exact⟨h,ae _⟩
def Ym (nm:ByteArray) (v:Int):∀{l:List Fm},kF l→kF (jD nm v l)∧bd (jD nm v l)≤bd l
 |[],_=>⟨trivial,ae _⟩
 |f::l,h=>by
  obtain⟨a1,a2⟩:=Cm nm v h.1;obtain⟨b1,b2⟩:=Ym nm v h.2;rw[jD];exact⟨⟨a1,b1⟩,by simp[bd];omega⟩
end
mutual
def Qm (nm:ByteArray) (y:Int):∀(f:Fm)(L:List Int),y∈L→y∈gW nm L f
 |.mk o n c m kids,L,h=>by
  rw[gW];refine Qq nm y kids _ ?_;split
  ·exact List.mem_append_left _ h
  ·exact h
def Qq (nm:ByteArray) (y:Int):∀(l:List Fm)(L:List Int),y∈L→y∈iT nm L l
 |[],L,h=>by rw[iT];exact h
 |f::l,L,h=>by rw[iT];exact Qq nm y l _ (Qm nm y f L h)
end
def zRj (d:Array Int):Lib.keeps d 0=true:=Lib.keeps_lt_one d 0 (by omega)
def zys {L:List Int}(h:L≠[]):fZ L≠[]:=by
 intro e;have h1:(fZ L).length=0:=by rw[e];rfl
 unfold fZ Lib.compact Lib.compactUpTo at h1;rw[List.length_map]at h1;have h2:(0:Nat)∈(List.range L.length).filter (Lib.keeps L.toArray):=by
  rw[List.mem_filter];refine⟨List.mem_range.2 (List.length_pos_iff.2 h),zRj _⟩
 have:=List.length_pos_of_mem h2;omega
def Qp (f:Fm)(x:Fc)(hx:x.lo≤x.hi):fQ f x≠[]:=by
 apply zys;have h1:x.lo∈gW x.name [x.lo] f:=Qm _ _ f _ (by simp);have h2:x.lo∈dG (gW x.name [x.lo] f):=by
  unfold dG;exact List.mem_mergeSort.2 h1
 have h3:x.lo∈(dG (gW x.name [x.lo] f)).filter fun y=>!iy x y:=by
  rw[List.mem_filter];refine⟨h2,?_⟩;simp[iy];omega
 exact List.ne_nil_of_mem h3
def zz9 {L:List Int}{y:Int}(h:y∈fZ L):y∈L:=by
 unfold fZ Lib.compact Lib.compactUpTo at h;obtain⟨k,hk,rfl⟩:=List.mem_map.1 h;have:=List.mem_range.1 (List.mem_filter.1 hk).1;rw[getElem!_pos _ k (by simpa using this)];simp
def YK (f:Fm)(x:Fc):∀y∈fQ f x,x.lo≤y∧y≤x.hi:=by
 intro y hy;have:=(List.mem_filter.1 (zz9 hy)).2;simp[iy]at this;omega
def Tu (f:Fm)(x:Fc):(fQ f x).length≤1+2 * f.size:=by
 have h1:=Ty ((dG (gW x.name [x.lo] f)).filter fun y=>!iy x y);have h2:=List.length_filter_le (fun y=>!iy x y) (dG (gW x.name [x.lo] f));have h3:=Ie (gW x.name [x.lo] f);have h4:=B9 x.name f [x.lo];simp only[List.length_cons,List.length_nil]at h4;unfold fQ;omega
structure GS where
 L:List Nd
 D:List (ByteArray×Int)
 full:Bool
def cz (b:Bool):Nd:=⟨0,[],[],b⟩
def dp (n:Nd)(S:GS):Int×GS:=((mW S.L n:Int),{ S with L:=jB S.L n })
def k9 (t:ByteArray):List (ByteArray×Int)→Option Int
 |[]=>none
 |(k,v)::l=>if t=k then some v else k9 t l
def mE (t:ByteArray) (v:Int):List (ByteArray×Int)→List (ByteArray×Int)
 |[]=>[(t,v)]
 |(k,w)::l=>if t=k then (k,v)::l else (k,w)::mE t v l
def ez (g:Int→GS→Int×GS):List Int→GS→List Int×GS
 |[],S=>([],S)
 |v::l,S=>((g v S).1::(ez g l (g v S).2).1,(ez g l (g v S).2).2)
def sJ (i:Nat)(f:Fm):ByteArray:=⟨(Lib.itoa (i:Int)).toArray⟩++⟨(iW f).toArray⟩
def jr (l:List Int):Int:=l.headD 0
def eT (i:Nat)(st ks:List Int)(S:GS):Int×GS:=
 let n:Nd:=⟨(i:Int),(bN (jr ks) [] [jr ks] st ks).2.1,(bN (jr ks) [] [jr ks] st ks).2.2,false⟩
 if n.kids.length=1 then (jr ks,S) else dp n S
def kI (S:GS):Bool:=S.full || decide (20000<S.L.length)
def cr (d:List Fc):Nat→Fm→GS→Int×GS
 |0,f,S=>if f.op=1∨f.op=2 then dp (cz (decide (f.op=1))) S else dp (cz false) { S with full:=kI S }
 |k+1,f,S=>if f.op=1∨f.op=2 then dp (cz (decide (f.op=1))) S else
   if kI S then dp (cz false) { S with full:=true } else
   match k9 (sJ (d.length-(k+1)) f) S.D with
   |some v=>(v,{ S with full:=false })
   |none=>
    let x:=d.getD (d.length-(k+1)) ⟨.empty,0,0,0⟩
    let r:=ez (fun v S=>cr d k (bY x.name v f) S) (fQ f x) { S with full:=false }
    let o:=eT (d.length-(k+1)) (fQ f x) r.1 r.2
    (o.1,{ o.2 with D:=mE (sJ (d.length-(k+1)) f) o.1 o.2.D })
def BK (n:Nd):Bool:=!n.kids.isEmpty
def inn (L:List Nd):Nat:=(L.filter BK).length
structure GI (S:GS):Prop where
 nd:(S.L.map bV).Nodup
 wk:WK S.L
 ni:∀n∈S.L,jE n
 lf:∀n∈S.L,n.kids=[]→n=cz true∨n=cz false
 dv:∀p∈S.D,0≤p.2∧p.2<(S.L.length:Int)
def zy7 {α:Type} [DecidableEq α]:∀{l m:List α},l.Nodup→(∀x∈l,x∈m)→l.length≤m.length
 |[],m,_,_=>by simp
 |x::t,m,h,hs=>by
  have hx:x∈m:=hs x aq;obtain⟨h1,h2⟩:=List.nodup_cons.1 h;have:=zy7 (l:=t) (m:=m.erase x) h2 fun y hy=>(List.mem_erase_of_ne (fun e:y=x=>h1 (e ▸ hy))).2 (hs y (an _ hy));rw[List.length_erase_of_mem hx]at this;have:=List.length_pos_of_mem hx;simp only[List.length_cons];omega
def zFg {α:Type}(p:α→Bool):∀l:List α,l.length=(l.filter p).length+(l.filter fun x=>!p x).length
 |[]=>rfl
 |x::l=>by
  have:=zFg p l;cases h:p x <;> simp[h] <;> omega
open Classical in
def GI.len {S:GS}(h:GI S):S.L.length≤inn S.L+2:=by
 have h1:(S.L.filter fun n=>!BK n).length≤2:=by
  have hn:(S.L.filter fun n=>!BK n).Nodup:=by
   have:S.L.Nodup:=by
    have:=List.pairwise_map.1 h.nd;exact this.imp fun {a b} aT e=>aT (by rw[e])
   exact this.filter _
  have:=zy7 (α:=Nd) (m:=[cz true,cz false]) hn fun x hx=>by
   obtain⟨a,b⟩:=List.mem_filter.1 hx;have hk:x.kids=[]:=by
    unfold BK at b;cases hk:x.kids with
    |nil=>rfl
    |cons y ys=>rw[hk]at b;simp at b
   rcases h.lf x a hk with e |e <;> simp[e]
  simpa using this
 have h2:=zFg BK S.L;unfold inn;omega
structure qx (S S':GS):Prop where
 pre:∃t,S'.L=S.L++t
def qx.refl (S:GS):qx S S:=⟨⟨[],by simp⟩⟩
def qx.trans {A B C:GS}(h:qx A B)(k:qx B C):qx A C:=by
 obtain⟨t,e⟩:=h.pre;obtain⟨u,e2⟩:=k.pre;exact⟨⟨t++u,by rw[e2,e,List.append_assoc]⟩⟩
def qx.len {S S':GS}(h:qx S S'):S.L.length≤S'.L.length:=by
 obtain⟨t,e⟩:=h.pre;rw[e];simp
def Rx (n:Nd)(L:List Nd):Prop:=jE n∧(n.kids=[]→n=cz true∨n=cz false)∧∀x∈n.kids,0≤x∧x<(L.length:Int)
def En (b:Bool)(L:List Nd):Rx (cz b) L:=⟨⟨sf (by simp[cz]) (by simp[cz]),by simp[cz],by simp[cz],by simp[cz],by simp[cz]⟩,fun _=>by cases b <;> simp,by simp[cz]⟩
def Eo {S:GS}{n:Nd}(h:GI S)(hn:Rx n S.L):GI (dp n S).2∧(0≤(dp n S).1∧(dp n S).1<((dp n S).2.L.length:Int))∧qx S (dp n S).2∧inn (dp n S).2.L≤inn S.L+(if n.kids=[] then 0 else 1):=by
 have ay:=zM3 S.L n;obtain⟨n1,n2,n3⟩:=hn;refine⟨?_,⟨by simp[dp],by simp only[dp];omega⟩,?_,?_⟩
 ·by_cases hm:bV n∈S.L.map bV
  ·have:(dp n S).2=S:=by simp[dp,jB,hm]
   rw[this];exact h
  ·have hL:(dp n S).2.L=S.L++[n]:=by simp[dp,jB,hm]
   have hD:(dp n S).2.D=S.D:=rfl;refine⟨?_,?_,?_,?_,?_⟩
   ·rw[hL,List.map_append];refine List.nodup_append.2 ⟨h.nd,by simp,?_⟩;intro x hx y hy e;simp at hy;subst hy;exact hm (e ▸ hx)
   ·rw[hL];intro x hx y hy;rw[List.length_append]
    rcases List.mem_append.1 hx with q |q
    ·have:=h.wk x q y hy;simp;omega
    ·simp at q;subst q;have:=n3 y hy;simp;omega
   ·rw[hL];intro x hx
    rcases List.mem_append.1 hx with q |q
    ·exact h.ni x q
    ·simp at q;subst q;exact n1
   ·rw[hL];intro x hx
    rcases List.mem_append.1 hx with q |q
    ·exact h.lf x q
    ·simp at q;subst q;exact n2
   ·rw[hL,hD];intro p hp;have:=h.dv p hp;rw[List.length_append];simp;omega
 ·unfold dp jB
  by_cases hm:bV n∈S.L.map bV
  ·rw[if_pos hm];exact⟨⟨[],by simp⟩⟩
  ·rw[if_neg hm];exact⟨⟨[n],rfl⟩⟩
 ·unfold dp jB
  by_cases hm:bV n∈S.L.map bV
  ·simp only[if_pos hm];omega
  ·simp only[if_neg hm];unfold inn;rw[List.filter_append,List.length_append]
   by_cases hk:n.kids=[]
   ·rw[if_pos hk];simp[BK,hk]
   ·rw[if_neg hk];have:=List.length_filter_le BK [n];simp at this;omega
def GI.full {S:GS}(h:GI S)(b:Bool):GI { S with full:=b }:=⟨h.nd,h.wk,h.ni,h.lf,h.dv⟩
def zxn {t:ByteArray}{v:Int}:∀{D:List (ByteArray×Int)},k9 t D=some v→(∃p∈D,p.2=v)
 |[],h=>by cases h
 |(k,w)::l,h=>by
  rw[k9]at h
  by_cases e:t=k
  ·rw[if_pos e]at h;cases h;exact⟨(k,v),aq,rfl⟩
  ·rw[if_neg e]at h;obtain⟨p,hp,e2⟩:=zxn h;exact⟨p,an _ hp,e2⟩
def zy3 {t:ByteArray}{v:Int}:∀{D:List (ByteArray×Int)}{p:ByteArray×Int},p∈mE t v D→p∈D∨p.2=v
 |[],p,h=>by
  simp[mE]at h;exact .inr (by rw[h])
 |(k,w)::l,p,h=>by
  rw[mE]at h
  by_cases e:t=k
  ·rw[if_pos e]at h
   rcases List.mem_cons.1 h with q |q
   ·exact .inr (by rw[q])
   ·exact .inl (an _ q)
  ·rw[if_neg e]at h
   rcases List.mem_cons.1 h with q |q
   ·exact .inl (by rw[q];exact aq)
   ·rcases zy3 q with q |q
    ·exact .inl (an _ q)
    ·exact .inr q
def Mq (P Q:Int→Prop):∀(ss ys:List Int) (x:Int)(c k:List Int),(∀a∈c,P a)→(∀a∈ss,P a)→(∀a∈k,Q a)→(∀a∈ys,Q a)→
  (∀a∈(bN x c k ss ys).2.1,P a)∧(∀a∈(bN x c k ss ys).2.2,Q a)∧k.length≤(bN x c k ss ys).2.2.length∧(bN x c k ss ys).2.2.length≤k.length+ys.length∧(bN x c k ss ys).2.1.length≤c.length+ys.length
 |[],ys,x,c,k,h1,_,h3,_=>⟨h1,h3,by simp[bN],by simp[bN],by simp[bN]⟩
 |s::ss,[],x,c,k,h1,_,h3,_=>⟨h1,h3,by simp[bN],by simp[bN],by simp[bN]⟩
 |s::ss,y::ys,x,c,k,h1,h2,h3,h4=>by
  by_cases e:y=x
  ·rw[Cr e];obtain⟨a1,a2,a3,a4,a5⟩:=Mq P Q ss ys x c k h1 (fun a ha=>h2 a (an _ ha)) h3 (fun a ha=>h4 a (an _ ha));exact⟨a1,a2,a3,by simp;omega,by simp;omega⟩
  ·rw[EF e];obtain⟨a1,a2,a3,a4,a5⟩:=Mq P Q ss ys y (c++[s]) (k++[y]) (fun a ha=>by
     rcases List.mem_append.1 ha with q |q
     ·exact h1 a q
     ·simp at q;subst q;exact h2 a aq) (fun a ha=>h2 a (an _ ha)) (fun a ha=>by
     rcases List.mem_append.1 ha with q |q
     ·exact h3 a q
     ·simp at q;subst q;exact h4 a aq) (fun a ha=>h4 a (an _ ha))
   simp only[List.length_append,List.length_cons,List.length_nil]at a3 a4 a5;exact⟨a1,a2,by omega,by simp;omega,by simp;omega⟩
def YD {S:GS}{i:Nat}{st ks:List Int}(h:GI S)(hi:i≤1000)(aU:∀a∈st,dh a)(mM:∀a∈ks,0≤a∧a<(S.L.length:Int))(aT:ks≠[])(hlen:ks.length≤90000)(hL:S.L.length≤1000000):
  GI (eT i st ks S).2∧(0≤(eT i st ks S).1∧(eT i st ks S).1<((eT i st ks S).2.L.length:Int))∧qx S (eT i st ks S).2∧inn (eT i st ks S).2.L≤inn S.L+1:=by
 have hh:jr ks∈ks:=by
  cases ks with
  |nil=>exact absurd rfl aT
  |cons x xs=>exact aq
 have hr:=mM _ hh;have hI:∀a:Int,0≤a∧a<(S.L.length:Int)→dh a:=fun a ha=>⟨by omega,by omega⟩;obtain⟨a1,a2,a3,a4,a5⟩:=Mq dh (fun a=>0≤a∧a<(S.L.length:Int)) st ks (jr ks) [] [jr ks] (by simp) aU (by simpa using hr) mM;simp only[List.length_cons,List.length_nil]at a3 a4 a5;unfold eT;simp only
 by_cases e:(bN (jr ks) [] [jr ks] st ks).2.2.length=1
 ·rw[if_pos e];exact⟨h,hr,.refl S,Nat.le_succ _⟩
 ·rw[if_neg e];have Oa:dh (i:Int):=⟨by omega,by omega⟩;have Vg:(bN (jr ks) [] [jr ks] st ks).2.2≠[]:=fun q=>by rw[q]at a3;simp at a3
  obtain⟨b1,b2,b3,b4⟩:=Eo (n:=⟨(i:Int),(bN (jr ks) [] [jr ks] st ks).2.1,(bN (jr ks) [] [jr ks] st ks).2.2,false⟩) h ⟨⟨Oa,a1,fun a ha=>hI a (a2 a ha),Nat.le_trans a5 (by omega),Nat.le_trans a4 (by omega)⟩,fun q=>absurd q Vg,a2⟩;refine⟨b1,b2,b3,?_⟩;rw[if_neg Vg]at b4;exact b4
def zzo {g:Int→GS→Int×GS}{B:Nat}(hg:∀v S,GI S→inn S.L≤B→GI (g v S).2∧(0≤(g v S).1∧(g v S).1<((g v S).2.L.length:Int))∧qx S (g v S).2∧inn (g v S).2.L≤B):∀(l:List Int)(S:GS),GI S→inn S.L≤B→
  GI (ez g l S).2∧(∀a∈(ez g l S).1,0≤a∧a<((ez g l S).2.L.length:Int))∧qx S (ez g l S).2∧inn (ez g l S).2.L≤B∧(ez g l S).1.length=l.length
 |[],S,h,hb=>⟨h,by simp[ez],.refl S,hb,rfl⟩
 |v::l,S,h,hb=>by
  obtain⟨a1,a2,a3,a4⟩:=hg v S h hb;obtain⟨b1,b2,b3,b4,b5⟩:=zzo hg l (g v S).2 a1 a4;have:=b3.len;refine⟨b1,fun a ha=>?_,a3.trans b3,b4,by simp[ez,b5]⟩
  rcases List.mem_cons.1 ha with q |q
  ·subst q;simp only[ez];omega
  ·exact b2 a q
def Ir (d:List Fc)(hd:d.length≤1000)(hv:∀x∈d,x.lo≤x.hi∧dh x.lo∧dh x.hi):∀(k:Nat)(f:Fm)(S:GS),k≤d.length→iY f→f.size≤1000→GI S→inn S.L≤20000+d.length+1→
  GI (cr d k f S).2∧(0≤(cr d k f S).1∧(cr d k f S).1<((cr d k f S).2.L.length:Int))∧qx S (cr d k f S).2∧inn (cr d k f S).2.L≤max (inn S.L) (20000+k)
 |0,f,S,_,_,_,h,_=>by
  rw[cr]
  by_cases e:f.op=1∨f.op=2
  ·rw[if_pos e];obtain⟨a1,a2,a3,a4⟩:=Eo h (En (decide (f.op=1)) S.L);exact⟨a1,a2,a3,by rw[if_pos (by rfl)]at a4;omega⟩
  ·rw[if_neg e];obtain⟨a1,a2,a3,a4⟩:=Eo (h.full (kI S)) (En false S.L);exact⟨a1,a2,⟨a3.pre⟩,by rw[if_pos (by rfl)]at a4;simp only at a4;omega⟩
 |k+1,f,S,hk,hf,hfs,h,hb=>by
  rw[cr]
  by_cases e:f.op=1∨f.op=2
  ·rw[if_pos e];obtain⟨a1,a2,a3,a4⟩:=Eo h (En (decide (f.op=1)) S.L);exact⟨a1,a2,a3,by rw[if_pos (by rfl)]at a4;omega⟩
  ·rw[if_neg e]
   by_cases e2:kI S=true
   ·rw[if_pos e2];obtain⟨a1,a2,a3,a4⟩:=Eo (h.full true) (En false S.L);exact⟨a1,a2,⟨a3.pre⟩,by rw[if_pos (by rfl)]at a4;simp only at a4;omega⟩
   ·rw[if_neg e2];have CU:S.L.length≤20000:=by
     unfold kI at e2;simp at e2;exact e2.2
    have ct:inn S.L≤20000:=Nat.le_trans (List.length_filter_le _ _) CU;cases hg:k9 (sJ (d.length-(k+1)) f) S.D with
    |some v=>
     obtain⟨p,hp,e3⟩:=zxn hg;have:=h.dv p hp;simp only;exact⟨h.full false,by rw[← e3];exact this,⟨⟨[],by simp⟩⟩,by omega⟩
    |none=>
     simp only;have jW:d.length-(k+1)<d.length:=by omega
     obtain⟨x,hx⟩:∃x,x=d.getD (d.length-(k+1)) ⟨.empty,0,0,0⟩:=⟨_,rfl⟩;have Bc:x∈d:=by
      rw[hx,ak,aa jW];exact ah jW
     obtain⟨v1,v2,v3⟩:=hv x Bc;rw[← hx];obtain⟨b1,b2,b3,b4,b5⟩:=zzo (g:=fun v S=>cr d k (bY x.name v f) S) (B:=20000+k) (fun v S hS hSb=>by
      obtain⟨g1,g2⟩:=Cm x.name v hf;obtain⟨a1,a2,a3,a4⟩:=Ir d hd hv k (bY x.name v f) S (by omega) g1 (by omega) hS (by omega);exact⟨a1,a2,a3,by omega⟩) (fQ f x) { S with full:=false } (h.full false) (by simp only;omega)
     have hl:=b1.len;have lI:=Tu f x;have aT:=Qp f x v1;have Gb:=YK f x;obtain⟨c1,c2,c3,c4⟩:=YD (i:=d.length-(k+1)) (st:=fQ f x) b1 (by omega) (fun a ha=>by
      have:=Gb a ha;obtain⟨p1,p2⟩:=v2;obtain⟨p3,p4⟩:=v3;exact⟨by omega,by omega⟩) b2 (fun q=>by rw[q]at b5;simp at b5;exact aT (au b5.symm)) (by omega) (by omega)
     have FM:=c3.len;refine⟨⟨c1.nd,c1.wk,c1.ni,c1.lf,?_⟩,c2,?_,?_⟩
     ·intro p hp
      rcases zy3 hp with q |q
      ·exact c1.dv p q
      ·rw[q];exact c2
     ·obtain⟨t,ht⟩:=(b3.trans c3).pre;exact⟨⟨t,ht⟩⟩
     ·omega
end
section
open Go.Proofs Go.RowKit
attribute [-go_sem] dN bX fC jg
def Z8:cx.ft.get 138=some Tryz.f138:=aO
@[go_sem] theorem zXi (a b:ByteArray)(h:Tr ABlk) (nx:Nat)(hs:a.size+b.size≤9223372036854775807):jg .add a b h nx=.val (.bs (a++b)) h nx:=by
 have:Nat.ble (Nat.add a.size b.size) 9223372036854775807=true:=Nat.ble_eq_true_of_le hs;simp only[jg,this]
@[go_sem] theorem ycn (a b:ByteArray)(h:Tr ABlk) (nx:Nat):jg .eql a b h nx=.val (.bool (decide (a=b))) h nx:=rfl
@[go_sem] theorem ydc (a b:ByteArray)(h:Tr ABlk) (nx:Nat):jg .neq a b h nx=.val (.bool (!(decide (a=b)))) h nx:=rfl
def mH:List (ByteArray×Int)→Nat→List (AV×AV×Nat)
 |[],_=>[]
 |(t,v)::l,n=>(.bs t,.int .i64 v,n)::mH l (n+1)
def yZ (t:ByteArray):List (ByteArray×Int)→Nat→Option (Nat×AV)
 |[],_=>none
 |(k,v)::l,i=>if t=k then some (i,.int .i64 v) else yZ t l (i+1)
def X2 (t:ByteArray):∀(l:List (ByteArray×Int)) (n:Nat),mU .string (.bs t) (mH l n) n=some (yZ t l n)
 |[],n=>rfl
 |(k,v)::l,n=>by
  rw[mH,Er,yZ]
  by_cases e:t=k
  ·simp[mC,e]
  ·simp[mC,e,fN_eq,X2 t l (n+1)]
@[go_sem] theorem zWf (t:ByteArray)(l:List (ByteArray×Int)):mU .string (.bs t) (mH l 0) 0=some (yZ t l 0):=X2 t l 0
def LB {t:ByteArray}:∀{l:List (ByteArray×Int)}(n:Nat),k9 t l=none→yZ t l n=none
 |[],_,_=>rfl
 |(k,v)::l,n,h=>by
  rw[k9]at h;rw[yZ]
  by_cases e:t=k
  ·rw[if_pos e]at h;cases h
  ·rw[if_neg e]at h ⊢;exact LB (n+1) h
def KN {t:ByteArray}{v:Int}:∀{l:List (ByteArray×Int)}(n:Nat),k9 t l=some v→∃j,yZ t l n=some (n+j,.int .i64 v)∧j<l.length∧∀(w:Int) (m:Nat),(mH l m).modify j (fun e=>match e with |(_,_,n)=>(.bs t,.int .i64 w,n))=mH (mE t w l) m
 |[],_,h=>by cases h
 |(k,u)::l,n,h=>by
  rw[k9]at h;rw[yZ]
  by_cases e:t=k
  ·rw[if_pos e]at h ⊢;cases h;refine⟨0,rfl,by simp,fun w m=>?_⟩;rw[mE,if_pos e,mH,mH,e];rfl
  ·rw[if_neg e]at h ⊢;obtain⟨j,h1,h2,h3⟩:=KN (n+1) h;refine⟨j+1,by rw[h1,show n+1+j=n+(j+1) by omega],by simp;omega,fun w m=>?_⟩;rw[mE,if_neg e,mH,mH,← h3 w (m+1)];rfl
def Rs {t:ByteArray}{w:Int}:∀{l:List (ByteArray×Int)},k9 t l=none→mE t w l=l++[(t,w)]
 |[],_=>rfl
 |(k,v)::l,h=>by
  rw[k9]at h;rw[mE]
  by_cases e:t=k
  ·rw[if_pos e]at h;cases h
  ·rw[if_neg e]at h ⊢;rw[Rs h];rfl
def SC (t:ByteArray) (w:Int):∀(l:List (ByteArray×Int)) (n:Nat),mH (l++[(t,w)]) n=mH l n++[(.bs t,.int .i64 w,n+l.length)]
 |[],n=>rfl
 |(k,v)::l,n=>by
  rw[List.cons_append,mH,mH,SC t w l (n+1)];simp;omega
def Rr {t:ByteArray}{w:Int}:∀{l:List (ByteArray×Int)}{v:Int},k9 t l=some v→(mE t w l).length=l.length
 |[],_,h=>by cases h
 |(k,u)::l,v,h=>by
  rw[k9]at h;rw[mE]
  by_cases e:t=k
  ·rw[if_pos e];rfl
  ·rw[if_neg e]at h ⊢;simp[Rr h]
structure gj (O:Nat→Prop) (e b:Nat)(u:Bool)(d:List Fc)(S:GS)(h:Tr ABlk) (nx:Nat):Prop where
 le:e<b
 lb:b+6≤nx
 hO:∀k,O k→k=b∨b+6≤k
 ge:h.get e=some (bx 35 [.fz 4 u (aN d)] false 0)
 gm:h.get (b+1)=some (bx 182 [.ptr b 0] false 0)
 gd:h.get (b+2)=some (.map (mH S.D 0) S.D.length)
 gv:h.get (b+3)=some (bx 183 [.map (b+2)] false 0)
 gf:h.get (b+4)=some (bx 4 [.bool S.full] false 0)
 gg:h.get (b+5)=some (bx 169 [.func 138 [] [.ptr (b+1) 0,.ptr (b+4) 0,.ptr e 0,.ptr (b+3) 0,.ptr (b+5) 0]] false 0)
 mkS:ke O h nx b S.L
def KG (O:Nat→Prop) (b:Nat)(h:Tr ABlk) (nx:Nat)(O':Nat→Prop)(g:Tr ABlk) (ny:Nat):Prop:=nx≤ny∧(∀k,k<nx→¬O k→k≠b+2→k≠b+4→g.get k=h.get k)∧∀k,O' k→O k∨nx≤k
def gj.ext {O:Nat→Prop}{e b:Nat}{u:Bool}{d:List Fc}{S:GS}{h g:Tr ABlk}{nx ny:Nat}(G:gj O e b u d S h nx)(x:az nx h g)(hn:nx≤ny):gj O e b u d S g ny:=by
 obtain⟨le,lb,hO,ge,gm,gd,gv,gf,gg,mk⟩:=G;refine⟨le,by omega,hO,?_,?_,?_,?_,?_,?_,mk.ext x hn⟩
 all_goals (rw[x _ (by omega)];assumption)
def gj.node {O O':Nat→Prop}{e b:Nat}{u:Bool}{d:List Fc}{S:GS}{L':List Nd}{h g:Tr ABlk}{nx ny:Nat}(G:gj O e b u d S h nx)(K:ew O h nx O' g ny)(m:ke O' g ny b L'):gj O' e b u d { S with L:=L' } g ny:=by
 obtain⟨le,lb,hO,ge,gm,gd,gv,gf,gg,mk⟩:=G;obtain⟨k1,k2,k3⟩:=K;have hn:∀k,O k→k=b∨b+6≤k:=hO;refine⟨le,by omega,fun k hk=>?_,?_,?_,?_,?_,?_,?_,m⟩
 ·rcases k3 k hk with q |q
  ·exact hO k q
  ·exact .inr (by omega)
 all_goals (rw[k2 _ (by omega) (fun q=>by have:=hn _ q;omega)];assumption)
def gj.setF {O:Nat→Prop}{e b:Nat}{u:Bool}{d:List Fc}{S:GS}{h:Tr ABlk}{nx:Nat}(G:gj O e b u d S h nx)(f:Bool):gj O e b u d { S with full:=f } (h.put (b+4) (some (bx 4 [.bool f] false 0))) nx:=by
 obtain⟨le,lb,hO,ge,gm,gd,gv,gf,gg,mk⟩:=G;refine⟨le,lb,hO,?_,?_,?_,?_,by simp[go_sem],?_,mk.mono (fun _ q=>q) (fun k hk q=>by have:=hO k q;rw[Tr.get_put,if_neg (by omega)]) (ae _)⟩
 all_goals (rw[Tr.get_put,if_neg (by omega)];assumption)
def gj.setD {O:Nat→Prop}{e b:Nat}{u:Bool}{d:List Fc}{S:GS}{h:Tr ABlk}{nx:Nat}(G:gj O e b u d S h nx)(D':List (ByteArray×Int)):gj O e b u d { S with D:=D' } (h.put (b+2) (some (.map (mH D' 0) D'.length))) nx:=by
 obtain⟨le,lb,hO,ge,gm,gd,gv,gf,gg,mk⟩:=G;refine⟨le,lb,hO,?_,?_,by simp[go_sem],?_,?_,?_,mk.mono (fun _ q=>q) (fun k hk q=>by have:=hO k q;rw[Tr.get_put,if_neg (by omega)]) (ae _)⟩
 all_goals (rw[Tr.get_put,if_neg (by omega)];assumption)
def Sr (b:Nat)(x:Bool):fS [.ptr b 0,.agg [.int .i64 0,.sl0,.sl0,.bool x]] [.ptr b 0,.agg (cz x).cs]:=
 .cons _ _ _ _ (.same _) (.cons _ _ _ _ (.agg _ _ (.cons _ _ _ _ (.same _) (.cons _ _ _ _ (.sl0 1 false) (.cons _ _ _ _ (.sl0 1 false) (.cons _ _ _ _ (.same _) .nil))))) .nil)
def KG.trans {O O1 O2:Nat→Prop}{b:Nat}{h g f:Tr ABlk}{nx n1 n2:Nat}(x:KG O b h nx O1 g n1)(y:KG O1 b g n1 O2 f n2):KG O b h nx O2 f n2:=by
 obtain⟨a1,a2,a3⟩:=x;obtain⟨b1,b2,b3⟩:=y;refine⟨by omega,fun k k1 k2 k3 k4=>?_,fun k hk=>?_⟩
 ·rw[b2 k (by omega) (fun q=>by rcases a3 k q with r |r;exact k2 r;omega) k3 k4,a2 k k1 k2 k3 k4]
 ·rcases b3 k hk with q |q
  ·exact a3 k q
  ·exact .inr (by omega)
def KG.ofExt {O:Nat→Prop}{b:Nat}{h g:Tr ABlk}{nx ny:Nat}(x:az nx h g)(hn:nx≤ny):KG O b h nx O g ny:=⟨hn,fun k hk _ _ _=>x k hk,fun _ h=>.inl h⟩
def KG.ofKept {O O':Nat→Prop}{b:Nat}{h g:Tr ABlk}{nx ny:Nat}(K:ew O h nx O' g ny):KG O b h nx O' g ny:=⟨K.1,fun k hk ho _ _=>K.2.1 k hk ho,K.2.2⟩
def KG.setF {O:Nat→Prop}{b:Nat}{h:Tr ABlk}{nx:Nat}(B:Option ABlk):KG O b h nx O (h.put (b+4) B) nx:=⟨ae _,fun k _ _ _ h4=>by rw[Tr.get_put,if_neg h4],fun _ h=>.inl h⟩
def KG.setD {O:Nat→Prop}{b:Nat}{h:Tr ABlk}{nx:Nat}(B:Option ABlk):KG O b h nx O (h.put (b+2) B) nx:=⟨ae _,fun k _ _ h4 _=>by rw[Tr.get_put,if_neg h4],fun _ h=>.inl h⟩
def SK (b:Bool):jE (cz b):=(En b []).1
def gj.all {O:Nat→Prop}{e b:Nat}{u:Bool}{d:List Fc}{S:GS}{h:Tr ABlk}{nx:Nat}(G:gj O e b u d S h nx):∃a c,h.get b=some (bx 187 [a,c] false 0)∧((S.L.length=0∧a=.sl0)∨∃q,a=.sl q 0 S.L.length 0 true):=by
 obtain⟨_,a,c,h1,h2⟩:=G.mkS;refine⟨a,c,h1,?_⟩
 rcases h2.2.2.2 with⟨q1,q2,q3⟩ |⟨q1,m,q,_,_,_,_,_,_,_,_,_,q2,_⟩
 ·exact .inl ⟨by rw[q1];rfl,q2⟩
 ·exact .inr ⟨q,q2⟩
def ke.low {O:Nat→Prop}{h:Tr ABlk}{nx p:Nat}{L:List Nd}(m:ke O h nx p L):ke (fun k=>O k∧k<nx) h nx p L:=by
 obtain⟨h1,a,c,h2,u1,u2,u3,u4⟩:=m;refine⟨h1,a,c,h2,u1,⟨u2,u3⟩,u3,?_⟩
 rcases u4 with u4 |⟨u4,m,q,o1,o2,m1,q1,rest⟩
 ·exact .inl u4
 ·exact .inr ⟨u4,m,q,⟨o1,m1⟩,⟨o2,q1⟩,m1,q1,rest⟩
def gj.low {O:Nat→Prop}{e b:Nat}{u:Bool}{d:List Fc}{S:GS}{h:Tr ABlk}{nx:Nat}(G:gj O e b u d S h nx):gj (fun k=>O k∧k<nx) e b u d S h nx:=by
 obtain⟨le,lb,hO,ge,gm,gd,gv,gf,gg,mk⟩:=G;exact⟨le,lb,fun k hk=>hO k hk.1,ge,gm,gd,gv,gf,gg,mk.low⟩
def KG.low {O O':Nat→Prop}{b:Nat}{h g:Tr ABlk}{nx ny:Nat}(K:KG O b h nx O' g ny):KG O b h nx (fun k=>O' k∧k<ny) g ny:=⟨K.1,K.2.1,fun k hk=>K.2.2 k hk.1⟩
def KG.up {O O':Nat→Prop}{b:Nat}{h g:Tr ABlk}{nx ny:Nat}(K:KG (fun k=>O k∧k<nx) b h nx O' g ny):KG O b h nx O' g ny:=⟨K.1,fun k h1 h2=>K.2.1 k h1 (fun q=>h2 q.1),fun k hk=>by rcases K.2.2 k hk with q |q;exact .inl q.1;exact .inr q⟩
def vT (d:List Fc)(u:Bool) (e b k:Nat)(f:Fm)(S:GS)(O:Nat→Prop)(h:Tr ABlk) (nx:Nat)(R:AV→Tr ABlk→Nat→Prop):Prop:=
 ∀O' g ny,KG O b h nx O' g ny→gj O' e b u d (cr d k f S).2 g ny→R (.int .i64 (cr d k f S).1) g ny
def XW {d:List Fc}{u:Bool}{e b k:Nat}{f:Fm}{S:GS}{O:Nat→Prop}{h:Tr ABlk}{nx:Nat}{R:AV→Tr ABlk→Nat→Prop}(hL:S.L.length<1000000)(hG:gj O e b u d S h nx)(hR:vT d u e b k f S O h nx R)(x:Bool)(hx:cr d k f S=dp (cz x) S)(g:Tr ABlk)(hE:az nx h g):
  di 139 [.ptr b 0,.agg [.int .i64 0,.sl0,.sl0,.bool x]] g (nx+1) R:=by
 unfold vT at hR;refine bf.wk (Sr b x) ?_;refine Hx O _ _ b S.L (cz x) ((hG.ext hE (by omega)).mkS) (SK x) (by omega) _ fun O' g' ny K M=>?_;rw[hx]at hR;exact hR O' g' ny ((KG.ofExt hE (by omega)).trans (KG.ofKept K)) ((hG.ext hE (by omega)).node K M)
def Rc {d:List Fc}{u:Bool}{e b k:Nat}{f:Fm}{S:GS}{O:Nat→Prop}{h:Tr ABlk}{nx:Nat}{R:AV→Tr ABlk→Nat→Prop}(hL:S.L.length<1000000)(hG:gj O e b u d S h nx)(hR:vT d u e b k f S O h nx R)(x:Bool)(hx:cr d k f S=dp (cz false) { S with full:=x })(g:Tr ABlk)(hE:az nx h g):
  di 139 [.ptr b 0,.agg [.int .i64 0,.sl0,.sl0,.bool false]] (g.put (b+4) (some (bx 4 [.bool x] false 0))) (nx+1) R:=by
 unfold vT at hR;have Nc:=(hG.ext hE (Nat.le_succ nx)).setF x;refine bf.wk (Sr b false) ?_;refine Hx O _ _ b S.L (cz false) Nc.mkS (SK false) (by omega) _ fun O' g' ny K M=>?_;rw[hx]at hR;exact hR O' g' ny (((KG.ofExt hE (Nat.le_succ nx)).trans (KG.setF _)).trans (KG.ofKept K)) (Nc.node K M)
def Sj (d:List Fc)(u:Bool) (e b k i:Nat)(f:Fm)(S:GS)(O:Nat→Prop)(h:Tr ABlk) (nx:Nat)(R:AV→Tr ABlk→Nat→Prop)(hL:S.L.length<1000000)(hG:gj O e b u d S h nx)(hR:vT d u e b k f S O h nx R)
  (h1:f.op=1∨f.op=2→cr d k f S=dp (cz (decide (f.op=1))) S) (h2:¬(f.op=1∨f.op=2)→cr d k f S=dp (cz false) { S with full:=kI S }) (h3:(f.op=1∨f.op=2)∨kI S=true∨i=d.length):
  di 138 [.agg f.cs,.int .i64 (i:Int),.ptr (b+1) 0,.ptr (b+4) 0,.ptr e 0,.ptr (b+3) 0,.ptr (b+5) 0] h nx R:=by
 obtain⟨o,nn,cm,m,kids⟩:=f;have uZ:=hG.lb;have hle:=hG.le;have pP:=hG.gm;have kP:=hG.ge;have uU:=hG.gf;obtain⟨ma,mc,gb,hA⟩:=hG.all;have b1:¬b+1=nx:=by omega
 have b2:¬b+4=nx:=by omega
 have b3:¬e=nx:=by omega
 have b4:¬b=nx:=by omega
 have b5:¬e=b+4:=by omega
 have wm:∀x,az nx h (h.put nx x):=fun x=>by simp(disch:=omega)only[aK];exact az.refl _ _
 refine aP Z8 (sz:=107) (rs:=[.tmp 9]) ?_
 by_cases o1:o=1
 ·subst o1;simp[go_sem,Fm.cs,pP,b1];refine(XW hL hG hR true (by rw[h1 (.inl rfl)];rfl) _ (wm _)).mono fun v g ny hh=>?_;simp[go_sem,aA];exact hh
 by_cases o2:o=2
 ·subst o2;simp[go_sem,Fm.cs,pP,b1];refine(XW hL hG hR false (by rw[h1 (.inr rfl)];rfl) _ (wm _)).mono fun v g ny hh=>?_;simp[go_sem,aA];exact hh
 have gE:¬((Fm.mk o nn cm m kids).op=1∨(Fm.mk o nn cm m kids).op=2):=by show ¬(o=1∨o=2);omega
 have uV:∀x,kI S=x→cr d k (.mk o nn cm m kids) S=dp (cz false) { S with full:=x }:=fun x hx=>by
  rw[h2 gE,hx]
 cases hF:S.full with
 |true=>
  rw[hF]at uU;have iL:=Rc hL hG hR true (uV true (by unfold kI;rw[hF];rfl)) _ (wm (some (bx 24 [.int .i64 o,.bs nn,.int .i64 cm,.int .i64 m,.fz 5 false (bU kids)] false 0)));simp[go_sem,Fm.cs,pP,uU,b1,b2,o1,o2];refine iL.mono fun v g ny hh=>?_;simp[go_sem,aA];exact hh
 |false=>
  rw[hF]at uU;have C7:(aN d).length=d.length:=by simp[aN]
  by_cases dY:20000<S.L.length
  ·have iL:=Rc hL hG hR true (uV true (by unfold kI;rw[hF];simpa using dY)) _ (wm (some (bx 24 [.int .i64 o,.bs nn,.int .i64 cm,.int .i64 m,.fz 5 false (bU kids)] false 0)));have dq:(20000:Int)<(S.L.length:Int):=by omega
   rcases hA with⟨h0,_⟩ |⟨q,ha⟩
   ·omega
   ·subst ha;simp[go_sem,Fm.cs,pP,uU,gb,b1,b2,b4,o1,o2,dq];refine iL.mono fun v g ny hh=>?_;simp[go_sem,aA];exact hh
  ·have iL:=Rc hL hG hR false (uV false (by unfold kI;rw[hF];simpa using dY)) _ (wm (some (bx 24 [.int .i64 o,.bs nn,.int .i64 cm,.int .i64 m,.fz 5 false (bU kids)] false 0)));have dq:¬(20000:Int)<(S.L.length:Int):=(by omega);have hid:i=d.length:=by
    rcases h3 with q |q |q
    ·exact absurd q gE
    ·unfold kI at q;rw[hF]at q;simp at q;omega
    ·exact q
   subst hid
   rcases hA with⟨h0,ha⟩ |⟨q,ha⟩
   ·subst ha;simp[go_sem,Fm.cs,pP,uU,kP,gb,b1,b2,b3,b4,b5,o1,o2,C7];refine iL.mono fun v g ny hh=>?_;simp[go_sem,aA];exact hh
   ·subst ha;simp[go_sem,Fm.cs,pP,uU,kP,gb,b1,b2,b3,b4,b5,o1,o2,dq,C7];refine iL.mono fun v g ny hh=>?_;simp[go_sem,aA];exact hh
def gj.but {O:Nat→Prop}{e b q:Nat}{u:Bool}{d:List Fc}{S:GS}{h g:Tr ABlk}{nx ny:Nat}(G:gj O e b u d S h nx)(hq:b+6≤q)(hO:¬O q)(x:∀k,k<nx→k≠q→g.get k=h.get k)(hn:nx≤ny):gj O e b u d S g ny:=by
 obtain⟨le,lb,hO,ge,gm,gd,gv,gf,gg,mk⟩:=G;refine⟨le,by omega,hO,?_,?_,?_,?_,?_,?_,mk.mono (fun _ q=>q) (fun k hk dK=>x k hk (fun e2=>by subst e2;contradiction)) hn⟩
 all_goals (rw[x _ (by omega) (by omega)];assumption)
def KG.but {O O1:Nat→Prop}{b q:Nat}{h g f:Tr ABlk}{nx n1 n2:Nat}(K:KG O b h nx O1 g n1)(hq:nx≤q)(x:∀k,k<n1→k≠q→f.get k=g.get k)(hn:n1≤n2):KG O b h nx O1 f n2:=by
 obtain⟨a1,a2,a3⟩:=K;exact⟨by omega,fun k k1 k2 k3 k4=>by rw[x k (by omega) (by omega),a2 k k1 k2 k3 k4],a3⟩
def TM (lo:Nat)(O:Nat→Prop)(h:Tr ABlk) (nx:Nat)(v:AV)(ks:List Int):Prop:=(ks=[]∧v=.sl0)∨(ks≠[]∧∃q,lo≤q∧q<nx∧¬O q∧v=.sl q 0 ks.length 0 true∧h.get q=some (bx 3 (aG ks) true 1))
def zPh (g:Int→GS→Int×GS) (v:Int)(l:List Int)(S:GS):ez g (v::l) S=((g v S).1::(ez g l (g v S).2).1,(ez g l (g v S).2).2):=rfl
def zRp (d:List Fc)(hd:d.length≤1000)(hv:∀x∈d,x.lo≤x.hi∧dh x.lo∧dh x.hi)(u:Bool) (e b k i:Nat)(f:Fm)(S:GS)(O:Nat→Prop)(h:Tr ABlk) (nx:Nat)(R:AV→Tr ABlk→Nat→Prop)(hi:i+(k+1)=d.length)(I9:iY f)(hfs:f.size≤1000)(gE:¬(f.op=1∨f.op=2))(pS:kI S=false)(hGI:GI S)(hG:gj O e b u d S h nx)(CV:∀k,O k→k<nx)(hR:vT d u e b (k+1) f S O h nx R)
  (ih:∀(f:Fm) (S:GS) (O:Nat→Prop) (h:Tr ABlk) (nx:Nat) (R:AV→Tr ABlk→Nat→Prop),iY f→f.size≤1000→GI S→inn S.L≤20000+d.length+1→gj O e b u d S h nx→vT d u e b k f S O h nx R→
   di 138 [.agg f.cs,.int .i64 ((i:Int)+1),.ptr (b+1) 0,.ptr (b+4) 0,.ptr e 0,.ptr (b+3) 0,.ptr (b+5) 0] h nx R):
  di 138 [.agg f.cs,.int .i64 (i:Int),.ptr (b+1) 0,.ptr (b+4) 0,.ptr e 0,.ptr (b+3) 0,.ptr (b+5) 0] h nx R:=by
 have hF:S.full=false:=by unfold kI at pS;simp at pS;exact pS.1
 have dY:¬20000<S.L.length:=by unfold kI at pS;simp at pS;omega
 have dq:¬(20000:Int)<(S.L.length:Int):=by omega
 have o9:(iW f).length≤1100000:=by have:=I9.spell;omega
 have hfI:EG f:=I9.I;have GF:=zRb f;have uZ:=hG.lb;have hle:=hG.le;have pP:=hG.gm;have kP:=hG.ge;have uU:=hG.gf;obtain⟨ma,mc,gb,hA⟩:=hG.all;have b1:¬b+1=nx:=by omega
 have b2:¬b+4=nx:=by omega
 have b3:¬e=nx:=by omega
 have b4:¬b=nx:=by omega
 have b5:¬e=b+4:=by omega
 have b6:¬nx=b+4:=by omega
 have b7:¬nx=nx+1:=by omega
 have b8:¬nx+1=b+4:=by omega
 have o1:¬f.op=1:=fun q=>gE (.inl q);have o2:¬f.op=2:=fun q=>gE (.inr q);have hid:¬i=d.length:=by omega
 obtain⟨cK,bn⟩:∃l,l=f.cs:=⟨_,rfl⟩;have iK:cK.length=5:=by rw[bn];cases f;rfl
 have I8:∀hh,cK[0]'hh=.int .i64 f.op:=by subst bn;intro hh;cases f;rfl
 have bO:cK.take 5=cK:=ar (by omega);have C7:(aN d).length=d.length:=by simp[aN]
 rw[← bn];rw[hF]at uU;have yB:(i:Int)<1000:=by omega
 refine aP Z8 (sz:=107) (rs:=[.tmp 9]) ?_;obtain⟨TG,qae⟩:∃B,B=some (bx 24 cK false 0):=⟨_,rfl⟩;have Nc:=(hG.ext (g:=h.put nx TG) (by simp(disch:=omega)only[aK];exact az.refl _ _) (Nat.le_succ nx)).setF false;have qF:KG O b h nx O ((h.put nx TG).put (b+4) (some (bx 4 [.bool false] false 0))) (nx+1):=(KG.ofExt (by simp(disch:=omega)only[aK];exact az.refl _ _) (Nat.le_succ nx)).trans (KG.setF _);have qG:∀(e:TypeId) (size b:Nat) (z:Option AV) (fs:List (Nat×Nat×Bool)) (g:Tr ABlk) (n:Nat),k8 (.mk (.slice e) size b z fs) ma g n=.val (.int .i64 (S.L.length:Int)) g n:=by
  intro e' size b' z fs g n
  rcases hA with⟨h0,ha⟩ |⟨q,ha⟩
  ·rw[ha,Cp,h0];rfl
  ·rw[ha,H9]
 clear hA;have Ob:¬(i:Int)=(d.length:Int):=by omega
 simp[go_sem,pP,uU,kP,gb,b1,b2,b3,b4,b5,b6,o1,o2,dq,qG,C7,iK,I8,bO,aI,Ob];have E0:az nx h (h.put nx (some (bx 24 cK false 0))):=by simp(disch:=omega)only[aK];exact az.refl _ _
 have IV:=(hG.ext E0 (Nat.le_succ nx)).setF false;have CT:KG O b h nx O _ (nx+1):=(KG.ofExt E0 (Nat.le_succ nx)).trans (KG.setF (some (bx 4 [.bool false] false 0)));have Nr:((h.put nx (some (bx 24 cK false 0))).put (b+4) (some (bx 4 [.bool false] false 0))).get nx=some (bx 24 cK false 0):=by simp[go_sem,b6]
 generalize hM:(h.put nx (some (bx 24 cK false 0))).put (b+4) (some (bx 4 [.bool false] false 0))=M at IV CT Nr;have NR:=IV.ge;clear hM E0 pP kP uU gb qG I8;have Uq:so (M.put (nx+1) (some (bx 192 [.ptr0,.sl0] false 0))) (nx+1+1) (nx+1) (nx+1) []:=⟨by omega,.inl ⟨rfl,by simp[go_sem]⟩⟩
 conv=>arg 4;rw[bn]
 refine zM8 f.size (nx+1) f [] _ _ (nx+1) _ (ae _) (by omega) hfI Uq (by simp;omega) fun v g ny q' c1 c2 c3 c4=>?_;have ra:nx+1<q':=by
  rcases c4.2 with⟨e1,_⟩ |⟨_,_,e1,_⟩
  ·exact absurd e1 (by simpa using GF)
  ·omega
 have E1:az (nx+1) M (g.put q' none):=fun k1 dB=>by
  rw[Tr.get_put,if_neg (by omega),c2 k1 (by omega) (by omega) (by omega),Tr.get_put,if_neg (by omega)]
 have ym:=IV.ext E1 (show nx+1≤ny by omega);have Fi:KG O b h nx O (g.put q' none) ny:=CT.trans (KG.ofExt E1 (by omega));have oS:(g.put q' none).get nx=some (bx 24 cK false 0):=by rw[E1 nx (by omega)];exact Nr
 rw[List.nil_append]at c4;simp[go_sem,aA];refine aB.use (LR (i:Int) (by omega) (by omega)) ?_;simp[go_sem,aA];have kp:=xw (i:Int) ⟨by omega,by omega⟩;obtain⟨ta,tR⟩:∃t:ByteArray,t=⟨(Lib.itoa (i:Int)).toArray⟩:=⟨_,rfl⟩;obtain⟨tb,GJ⟩:∃t:ByteArray,t=⟨(iW f).toArray⟩:=⟨_,rfl⟩;have hz:ta.size+tb.size≤9223372036854775807:=by
  rw[tR,GJ];simp[ByteArray.size];omega
 have Vq:sJ i f=ta++tb:=by rw[tR,GJ];rfl
 refine zSx g ny (nx+1) q' (iW f) GF (by omega) c4 _ ?_;rw[← tR,← GJ];generalize (g.put q' none)=M3 at ym Fi oS;clear c2 c3 c4 E1 IV CT Nr NR tR GJ Uq ra;have gm3:=ym.gm;have ge3:=ym.ge;have Ug:=ym.gv;have Uc:=ym.gd;have gg3:=ym.gg;cases rP:k9 (ta++tb) S.D with
 |some v=>
  obtain⟨j,f1,f2,f3⟩:=KN 0 rP;simp[go_sem,aA,hz,Ug,Uc,f1,bX];have uV:cr d (k+1) f S=(v,{ S with full:=false }):=by
   rw[cr,if_neg gE,pS,show d.length-(k+1)=i by omega,Vq,rP];rfl
  unfold vT at hR;rw[uV]at hR;exact hR O _ ny Fi ym
 |none=>
  have f1:=LB 0 rP;simp[go_sem,aA,hz,Ug,Uc,f1,bX];have kp:i<d.length:=by omega
  obtain⟨x,hx⟩:∃x,x=d[i]:=⟨_,rfl⟩;have Bc:x∈d:=by rw[hx];exact ah kp
  obtain⟨v1,v2,v3⟩:=hv x Bc;have GR:d.getD i ⟨.empty,0,0,0⟩=x:=by
   rw[hx,ak,aa kp];rfl
  have uV:cr d (k+1) f S=((eT i (fQ f x) (ez (fun v S=>cr d k (bY x.name v f) S) (fQ f x) { S with full:=false }).1 (ez (fun v S=>cr d k (bY x.name v f) S) (fQ f x) { S with full:=false }).2).1,{ (eT i (fQ f x) (ez (fun v S=>cr d k (bY x.name v f) S) (fQ f x) { S with full:=false }).1 (ez (fun v S=>cr d k (bY x.name v f) S) (fQ f x) { S with full:=false }).2).2 with D:=mE (ta++tb) (eT i (fQ f x) (ez (fun v S=>cr d k (bY x.name v f) S) (fQ f x) { S with full:=false }).1 (ez (fun v S=>cr d k (bY x.name v f) S) (fQ f x) { S with full:=false }).2).1 (eT i (fQ f x) (ez (fun v S=>cr d k (bY x.name v f) S) (fQ f x) { S with full:=false }).1 (ez (fun v S=>cr d k (bY x.name v f) S) (fQ f x) { S with full:=false }).2).2.D }):=by
   rw[cr,if_neg gE,pS,show d.length-(k+1)=i by omega,Vq,rP,GR];rfl
  have aU:=zGv f x (by omega);rw[← bn]at aU;have lI:=Tu f x;have wU:=Qp f x v1;have GD:∀a∈fQ f x,dh a:=fun a ha=>by
   have:=YK f x a ha;obtain⟨p1,p2⟩:=v2;obtain⟨p3,p4⟩:=v3;exact⟨by omega,by omega⟩
  generalize fQ f x=bW at aU lI wU GD uV;generalize N6:(fun v S=>cr d k (bY x.name v f) S)=gg at uV;obtain⟨FG,Fg⟩:∃FG,FG=ez gg bW { S with full:=false }:=⟨_,rfl⟩;rw[← Fg]at uV;refine eI [] [6] [] ?_;simp[go_sem,oS,ge3,kp,← hx,iK,bO];refine dV aU ?_;simp[go_sem,cW];have OJ:¬O nx:=fun q=>by have:=CV nx q;omega
  have Og:inn S.L≤20000:=Nat.le_trans (List.length_filter_le _ _) (by omega);have Pn:Fc.cs x=[.bs x.name,.int .i64 x.kind,.int .i64 x.lo,.int .i64 x.hi]:=by cases x;rfl
  have w1:IntKind.i64.wrap ((i:Int)+1)=(i:Int)+1:=by rw[aS] <;> omega
  refine bF (fun mm st=>∃tm h' ax j O' S' ks kv,st=.mk tm h' ax []∧mm=bW.length-j∧j≤bW.length∧tm.get 1=some (.int .i64 (i:Int))∧tm.get 2=some (.ptr (b+1) 0)∧tm.get 4=some (.ptr e 0)∧tm.get 5=some (.ptr (b+3) 0)∧tm.get 6=some (.ptr (b+5) 0)∧tm.get 7=some (.ptr nx 0)∧tm.get 11=some (.bs (ta++tb))∧tm.get 14=some (.fz 1 false (aG bW))∧tm.get 15=some kv∧tm.get 75=some (.fz 1 false (aG bW))∧tm.get 76=some (.int .i64 (bW.length:Int))∧tm.get 77=some (.int .i64 (j:Int))∧
   TM ny O' h' ax kv ks∧ks.length=j∧KG O b M3 ny O' h' ax∧gj O' e b u d S' h' ax∧(∀a,O' a→a<ax)∧GI S'∧inn S'.L≤20000+k∧(∀a∈ks,0≤a∧a<(S'.L.length:Int))∧
   RowKit.Hid (FG=(ks++(ez gg (bW.drop j) S').1,(ez gg (bW.drop j) S').2))) ⟨bW.length,_,_,_,0,O,{ S with full:=false },[],.sl0,rfl,by simp,by simp,?_⟩ ?_
  ·simp[go_sem];exact⟨.inl ⟨rfl,rfl⟩,KG.ofExt (az.refl _ _) (ae _),ym,fun a ha=>by have:=CV a ha;omega,hGI.full false,by omega,Lib.hid Fg⟩
  ·rintro mm st ⟨tm,h',ax,j,O',S',ks,kv,rfl,rfl,hj,t1,t2,t4,t5,t6,t7,t11,t14,t15,t75,t76,t77,AD,eO,yq,rL,Nu,oP,oU,mL,bM⟩ J hJ
   refine bl ?_;have NI:h'.get nx=some (bx 24 cK false 0):=by rw[yq.2.1 nx (by omega) OJ (by omega) (by omega)];exact oS
   have N5:=rL.ge;have N7:=rL.gg;have N8:=rL.gm;have hL':=oP.len
   by_cases ay:j<bW.length
   ·obtain⟨y,hy⟩:∃y,y=bW[j]:=⟨_,rfl⟩;have aF:=bM.out;rw[aj ay,← hy,zPh]at aF;have HV:=Lib.hid aF;clear aF bM;have yz:=Zn f.size f x.name y (ae _) (by omega) I9.notOk;rw[← bn]at yz;obtain⟨gG,gS⟩:=Cm x.name y I9;simp[go_sem,t75,t76,t77,ay,← hy];refine Hz mixed iQ xh 13 [] [10] [] [(0,15,81)] 2 (by kernel_rfl) (by kernel_rfl) ?_;simp[go_sem,t1,t4,t6,t7,t15,NI,N5,N7,kp,← hx,Pn,iK,bO];refine dV yz ?_;simp[go_sem,cW,w1,t1,t15];have iM:=Ir d hd hv k (bY x.name y f) S' (by omega) gG (by omega) oP (by omega);have Mw:gg y S'=cr d k (bY x.name y f) S':=by rw[← N6]
    rw[Mw]at HV;refine ih _ S' O' h' ax _ gG (by omega) oP (by omega) rL ?_;intro O2 g2 n2 sL sK;have K2:=sL.low;have G2:=sK.low;clear sL sK;generalize cr d k (bY x.name y f) S'=GV at iM HV G2 ⊢;obtain⟨w,S2⟩:=GV;obtain⟨q1,q2,q3,q4⟩:=iM;simp only at q1 q2 q3 q4 G2 ⊢;have q3l:=q3.len;have hKn:=yq.1;have qX:=K2.1;have qF:=yq.trans K2;have AF:∀a,a∈ks∨a=w→0≤a∧a<(S2.L.length:Int):=fun a ha=>by
     rcases ha with ha |rfl
     ·have:=mL a ha;omega
     ·exact q2
    rcases AD with⟨rfl,rfl⟩ |⟨eY,q,lq,qn,qO,rfl,gq⟩
    ·simp[go_sem,aA,t77];refine hJ (bW.length-(j+1)) _ (by omega) ⟨_,_,_,j+1,fun k=>O2 k∧k<n2,S2,[w],.sl (n2+1) 0 1 0 true,rfl,rfl,by omega,?_⟩;simp(disch:=omega) [go_sem,t1,t2,t4,t5,t6,t7,t11,t14,t75,t76,aS];refine⟨.inr ⟨by simp,n2+1,by omega,by omega,fun hq=>by omega,rfl,by simp[go_sem,aG]⟩,by simp at eO;omega,qF.but (q:=n2) (by omega) (fun k k1 k2=>by rw[Tr.get_put,if_neg (by omega),Tr.get_put,if_neg (by omega)]) (by omega),G2.but (q:=n2) (by omega) (fun hq=>by omega) (fun k k1 k2=>by rw[Tr.get_put,if_neg (by omega),Tr.get_put,if_neg (by omega)]) (by omega),by intros;omega,q1,by omega,?_,Lib.hid (by have:=HV.out;simpa using this)⟩;exact q2
    ·have PF:¬(O2 q∧q<n2):=fun hq=>by
      rcases K2.2.2 q hq with r |r
      ·exact qO r
      ·omega
     have wi:g2.get q=some (bx 3 (aG ks) true 1):=by rw[K2.2.1 q qn qO (by omega) (by omega)];exact gq
     have z1:¬q=n2:=(by omega);have z2:¬n2=q:=(by omega);have z3:¬n2+1=q:=(by omega);have fo:=vU ks;have wJ:ks.length+1≤16777216:=(by omega);simp[go_sem,aA,t77,wi,z1,wJ];refine hJ (bW.length-(j+1)) _ (by omega) ⟨_,_,_,j+1,fun k=>O2 k∧k<n2,S2,ks++[w],.sl (n2+1) 0 (ks.length+1) 0 true,rfl,rfl,by omega,?_⟩;simp(disch:=omega) [go_sem,t1,t2,t4,t5,t6,t7,t11,t14,t75,t76,aS];refine⟨.inr ⟨by simp,n2+1,by omega,by omega,fun hq=>by omega,by simp,by simp[go_sem,aG]⟩,eO,qF.but (q:=q) (by omega) (fun k k1 k2=>by rw[Tr.get_put,if_neg (by omega),Tr.get_put,if_neg (by omega),Tr.get_put,if_neg (by omega)]) (by omega),G2.but (q:=q) (by omega) PF (fun k k1 k2=>by rw[Tr.get_put,if_neg (by omega),Tr.get_put,if_neg (by omega),Tr.get_put,if_neg (by omega)]) (by omega),by intros;omega,q1,by omega,AF,Lib.hid (by have:=HV.out;simpa using this)⟩
   ·have AE:FG=(ks,S'):=by
     have:=bM.out;rw[al (by omega)]at this;simpa[ez]using this
    have tA:ks.length=bW.length:=by omega
    rcases AD with⟨rfl,_⟩ |⟨eY,q,lq,qn,qO,rfl,gq⟩
    ·exact absurd (au (by simpa using tA.symm)) wU
    obtain⟨k0,kt,mi⟩:∃k0 kt,ks=k0::kt:=by
     cases ks with
     |nil=>exact absurd rfl eY
     |cons a l=>exact⟨a,l,rfl⟩
    have yG:∀a∈k0::kt,dh a:=fun a ha=>by
     have:=mL a (by rw[mi];exact ha);exact⟨by omega,by omega⟩
    have Oq:(k0::kt).length=bW.length:=by rw[← mi];exact tA
    simp[go_sem,t1,t2,t14,t15,t76,t77,ay,N8];refine Hu (fun a=>a∈[q]) (iG.kill _) (args':=[.ptr b 0,.int .i64 (i:Int),.fz 1 false (aG bW),.fz 1 false (aG (k0::kt))]) ?_ ?_
    ·rw[← mi];exact .cons _ _ _ _ (.same _) (.cons _ _ _ _ (.same _) (.cons _ _ _ _ (.same _) (.cons _ _ _ _ (zN (s:=ks) (r:=[]) (by simp) (by rw[List.append_nil];exact gq)) .nil)))
    have zU:gj O' e b u d S' (jA h' [q]) ax:=rL.but (q:=q) (by omega) qO (fun k k1 k2=>oF (by simp;exact k2)) (ae _);have Fj:KG O b M3 ny O' (jA h' [q]) ax:=yq.but lq (fun k k1 k2=>oF (by simp;exact k2)) (ae _);have fin:∀(w:Int) (O2:Nat→Prop) (S2:GS) (g2:Tr ABlk) (n2:Nat),KG O b M3 ny O2 g2 n2→gj O2 e b u d S2 g2 n2→eT i bW ks S'=(w,S2)→R (.int .i64 w) (g2.put (b+2) (some (.map (mH (mE (ta++tb) w S2.D) 0) (mE (ta++tb) w S2.D).length))) n2:=by
     intro w O2 S2 g2 n2 K2 G2 hI;unfold vT at hR;rw[uV,AE]at hR;simp only[hI]at hR;exact hR O2 _ n2 (Fi.trans (K2.trans (KG.setD _))) (G2.setD _)
    have hIn:eT i bW ks S'=if (bN k0 [] [k0] bW (k0::kt)).2.2.length=1 then (k0,S') else dp ⟨(i:Int),(bN k0 [] [k0] bW (k0::kt)).2.1,(bN k0 [] [k0] bW (k0::kt)).2.2,false⟩ S':=by
     rw[mi];rfl
    refine Zc O' _ ax b S'.L (i:Int) k0 bW kt false false zU.mkS (by omega) ⟨by omega,by omega⟩ GD yG (by omega) (by omega) ⟨(i:Int),(bN k0 [] [k0] bW (k0::kt)).2.1,(bN k0 [] [k0] bW (k0::kt)).2.2,false⟩ rfl _ (fun g2 n2 c1 c2 c3=>?_) (fun O2 g2 n2 c1 c2 c3 c4=>?_)
    ·have G2:=zU.ext c2 c3;have fn:=fin k0 O' S' g2 n2 (Fj.trans (KG.ofExt c2 c3)) G2 (by rw[hIn,if_pos c1]);have sT:=G2.gv;have qC:=G2.gd;cases dO:k9 (ta++tb) S'.D with
     |none=>
      have f2:=LB 0 dO;rw[Rs dO,SC]at fn;simp[go_sem,aA,t5,t11,sT,qC,f2];simpa using fn
     |some v2=>
      obtain⟨j2,f2,f3,f4⟩:=KN 0 dO;rw[← f4,Rr dO]at fn;simp[go_sem,aA,t5,t11,sT,qC,f2];exact fn
    ·have G2:=zU.node c3 c4;have fn:=fin _ O2 _ g2 n2 (Fj.trans (KG.ofKept c3)) G2 (by rw[hIn,if_neg c1];rfl);have sT:=G2.gv;have qC:=G2.gd;simp only at fn qC;cases dO:k9 (ta++tb) S'.D with
     |none=>
      have f2:=LB 0 dO;rw[Rs dO,SC]at fn;simp[go_sem,aA,t5,t11,sT,qC,f2];simpa using fn
     |some v2=>
      obtain⟨j2,f2,f3,f4⟩:=KN 0 dO;rw[← f4,Rr dO]at fn;simp[go_sem,aA,t5,t11,sT,qC,f2];exact fn
end
end
end Go.Ev
