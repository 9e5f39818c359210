/- Texts. -/
import Derived.RecoverIn
import Derived.Laws.Pointers
import Derived.TacticsInMore
import Derived.RegionIn
import Derived.LoopNIn
import Derived.Test.YtkdnmldmffkkoaaGreatDoorP11
set_option linter.all false
set_option maxRecDepth 100000
set_option maxHeartbeats 8000000
namespace Go.Ev
noncomputable section
section
open Go.Proofs Go.RowKit
attribute [-go_sem] dN bX fC jg
def zUe:cx.ft.get 12=some Tryz.f12:=aO
def eM (f:Fm):List ByteArray:=(df lh [] f).1
def YI (f:Fm):(eM f).length≤f.size:=by
 have:=SH (mu:=List.length) Ze [] f;simpa[eM]using this
def zN6 (s:List ByteArray)(f:Fm)(hf:iY f)(hs:∀x∈s,x.size≤1000):∀x∈(lh s f).1,x.size≤1000:=by
 obtain⟨o,n,c,m,kids⟩:=f;intro x hx;simp only[lh]at hx;split at hx
 ·rcases List.mem_append.1 hx with h |h
  ·exact hs x h
  ·simp at h;rw[h];exact hf.2.2.2.1
 ·exact hs x hx
mutual
def ZH:∀(s:List ByteArray)(f:Fm),iY f→(∀x∈s,x.size≤1000)→∀x∈(df lh s f).1,x.size≤1000
 |s,.mk o n c m kids,hf,hs=>by
  have h1:=zN6 s (.mk o n c m kids) hf hs;rw[df];split
  ·exact Yv _ kids hf.2.2.2.2.2 h1
  ·exact h1
def Yv:∀(s:List ByteArray)(l:List Fm),kF l→(∀x∈s,x.size≤1000)→∀x∈(gh lh s l).1,x.size≤1000
 |s,[],_,hs=>by rw[gh];exact hs
 |s,f::l,hf,hs=>by
  have h1:=ZH s f hf.1 hs;rw[gh];split
  ·exact Yv _ l hf.2 h1
  ·exact h1
end
def kJ (d:List Fc)(f:Fm):Int:=rH n9 (fun s=>decide (0≤fy s (eM f))) d f
def X8 (u:Bool)(d:List Fc)(f:Fm)(hf:f.size≤1000000)(hd:d.length≤1000000000)(hl:(eM f).length≤1000000000):aM 38 [.agg f.cs,.agg [.fz 4 u (aN d)],fe (eM f)] (.int .i64 (kJ d f)):=by
 unfold fe kJ
 by_cases h:eM f=[]
 ·rw[if_pos h,h];have:=XY n9 u d f hf hd Se;have e:(fun s=>decide (0≤fy s []))=fun _=>false:=by
   funext s
   simp[fy]
  rw[e];exact this
 ·rw[if_neg h];exact zJv n9 u false d (eM f) f hf hd hl Se
open Classical in
def oG (d:List Fc):List ByteArray→List ByteArray→List Fc→Option (List Fc)
 |[],_,D=>some D
 |n::l,seen,D=>if ¬bj (fun f:Fc=>decide (f.name=n)) d<0 then none else if n∈seen then oG d l seen D else oG d l (seen++[n]) (D++[⟨n,1,0,1⟩])
structure uE where
 k:Int
 c:List Int
 e:Int
def uE.v (r:uE):AV:=.tup [.agg [.int .i64 r.k,.fz 1 false (aG r.c)],.int .i64 r.e]
open Classical in
def Bz (a b:Pv)(D:List Fc):uE:=
 if 60<D.length then ⟨0,[],2⟩
 else if ¬sq a b then ⟨1,[],0⟩
 else if (fP a.begin_ b.begin_ && fP a.end_ b.end_ && fP a.again b.again)=false then ⟨2,[],0⟩
 else if (kj a.when_ b.when_ D).e≠0 then ⟨0,[],(kj a.when_ b.when_ D).e⟩
 else if (kj a.when_ b.when_ D).f=true then ⟨3,(kj a.when_ b.when_ D).c,0⟩
 else ⟨0,[],0⟩
def jx (a b:Pv)(d:List Fc):uE:=
 if dH d=false then ⟨0,[],1⟩
 else if kJ d a.when_≠0 then ⟨0,[],kJ d a.when_⟩
 else if kJ d b.when_≠0 then ⟨0,[],kJ d b.when_⟩
 else match oG d (eM a.when_++eM b.when_) [] d with
  |none=>⟨0,[],1⟩
  |some D=>Bz a b D
def mD (t:TypeId) (es lo:Nat)(h:Tr ABlk) (n:Nat)(v:AV)(cells:List AV) (len:Nat):Prop:=(len=0∧cells=[]∧v=.sl0)∨∃q,lo≤q∧q<n∧v=.sl q 0 len 0 true∧h.get q=some (bx t cells true es)
def zLu (l:List Fc):(aN l).flatMap AV.cells=l.flatMap Fc.cs:=by
 induction l with
 |nil=>rfl
 |cons x l ih=>rw[show aN (x::l)=.agg x.cs::aN l from rfl,List.flatMap_cons,List.flatMap_cons,ih];rfl
def Ql:∀l:List Fc,dS (l.flatMap Fc.cs)=true
 |[]=>rfl
 |x::l=>by
  have h1:=Ql l;simp[Fc.cs,dS,AV.one];exact h1
def zNt (l:List Fc):(l.flatMap Fc.cs).length=l.length * 4:=by
 induction l with
 |nil=>rfl
 |cons x l ih=>simp[ih,Fc.cs];omega
def zFn (l:List ByteArray):(bp l).flatMap AV.cells=bp l:=by
 induction l with
 |nil=>rfl
 |cons x l ih=>rw[show bp (x::l)=.bs x::bp l from rfl,List.flatMap_cons,ih];rfl
def EB:∀l:List ByteArray,dS (bp l)=true
 |[]=>rfl
 |x::l=>EB l
def zLe (u:Bool)(d:List Fc)(hl:d.length≤16000000)(h:Tr ABlk) (nx:Nat)(R:AV→Tr ABlk→Nat→Prop)(hR:∀v g ny,az nx h g→nx≤ny→mD 65 4 nx g ny v (d.flatMap Fc.cs) d.length→R v g ny):di 40 [.fz 4 u (aN d)] h nx R:=by
 cases d with
 |nil=>
  refine zGq iQ zzt zLr zUl (hR _ _ _ (az.refl _ _) (ae _) (.inl ⟨rfl,rfl,rfl⟩)) (hR _ _ _ ?_ (Nat.le_succ _) (.inr ⟨nx,ae _,Nat.lt_succ_self _,rfl,by simp[go_sem]⟩));simp(disch:=omega)only[aK,az.refl]
 |cons f l=>
  rw[show aN (f::l)=.agg f.cs::aN l from rfl];have e:=zLu (f::l);rw[show aN (f::l)=.agg f.cs::aN l from rfl]at e;refine zNz u (.agg f.cs) (aN l) (by rw[e];exact Ql _) (by rw[Ix];simp at hl;omega) h nx R fun g q ny h1 h2 h3 h4=>?_;rw[e]at h4;rw[Ix];exact hR _ _ _ h1 (by omega) (.inr ⟨q,h2,h3,rfl,h4⟩)
def zUm (l:List ByteArray)(hl:l.length≤16000000)(h:Tr ABlk) (nx:Nat)(R:AV→Tr ABlk→Nat→Prop)(hR:∀v g ny,az nx h g→nx≤ny→mD 9 1 nx g ny v (bp l) l.length→R v g ny):di 41 [fe l] h nx R:=by
 cases l with
 |nil=>
  rw[show fe []=.sl0 from rfl];refine aB.use zG3 ?_;exact hR _ _ _ (az.refl _ _) (ae _) (.inl ⟨rfl,rfl,rfl⟩)
 |cons f l=>
  rw[show fe (f::l)=.fz 1 false (bp (f::l)) from by simp[fe]];have e:=zFn (f::l);have e1:=EB (f::l);rw[show bp (f::l)=.bs f::bp l from rfl]at e e1 ⊢;refine zLy false (.bs f) (bp l) (by rw[e];exact e1) (by rw[uD];simp at hl;omega) h nx R fun g q ny h1 h2 h3 h4=>?_;rw[e]at h4;rw[uD];exact hR _ _ _ h1 (by omega) (.inr ⟨q,h2,h3,rfl,h4⟩)
def zJb (A B T:List AV)(hA:A.length=23)(hB:B.length=23):(A++(B++T)).take 46=A++B:=by
 rw[← List.append_assoc,List.take_append_of_le_length (by simp;omega),ar (by simp;omega)]
def mD.ext {t:TypeId}{es lo n n':Nat}{h g:Tr ABlk}{v:AV}{cs:List AV}{len:Nat}(o:mD t es lo h n v cs len)(hk:∀k,lo≤k→k<n→g.get k=h.get k)(hn:n≤n'):mD t es lo g n' v cs len:=by
 rcases o with o |⟨q,q1,q2,q3,q4⟩
 ·exact .inl o
 ·exact .inr ⟨q,q1,by omega,q3,by rw[hk q q1 q2];exact q4⟩
def mD.ext2 {t:TypeId}{es lo n n':Nat}{h g:Tr ABlk}{v:AV}{cs:List AV}{len:Nat}(o:mD t es lo h n v cs len)(hk:∀k,lo≤k→k<n→h.get k=some (bx t cs true es)→g.get k=h.get k)(hn:n≤n'):mD t es lo g n' v cs len:=by
 rcases o with o |⟨q,q1,q2,q3,q4⟩
 ·exact .inl o
 ·exact .inr ⟨q,q1,by omega,q3,by rw[hk q q1 q2 q4];exact q4⟩
def mD.len {t:TypeId}{es lo n:Nat}{h:Tr ABlk}{v:AV}{cs:List AV}{len:Nat}(o:mD t es lo h n v cs len):∀(e:TypeId) (size b:Nat)(z:Option AV)(fs:List (Nat×Nat×Bool))(g:Tr ABlk) (n:Nat),k8 (.mk (.slice e) size b z fs) v g n=.val (.int .i64 (len:Int)) g n:=by
 intro e' size b' z fs g n
 rcases o with⟨h0,_,ha⟩ |⟨q,_,_,ha,_⟩
 ·rw[ha,Cp,h0];rfl
 ·rw[ha,H9]
def mD.app {t:TypeId}{es lo n len m:Nat}{h:Tr ABlk}{v:AV}{cs news:List AV}(o:mD t es lo h n v cs len)(eE:lo≤n)(hm:m≠0)(h1:len * es=cs.length)(h2:len+m≤16777216):
  ∃g,lS true m news t es v h n=.val (.sl n 0 (len+m) 0 true) g (n+1)∧(∀k,k<n→(∀l cp op,v≠.sl k 0 l cp op)→g.get k=h.get k)∧g.get n=some (bx t (cs++news) true es):=by
 rcases o with⟨rfl,rfl,rfl⟩ |⟨q,q1,q2,rfl,q4⟩
 ·refine⟨h.put n (some (bx t news true es)),by rw[zOn (h0:=hm) (h1:=(by omega:m≤16777216)),Nat.zero_add],fun k hk _=>by rw[Tr.get_put,if_neg (by omega)],by rw[Tr.get_put,if_pos rfl,List.nil_append]⟩
 ·refine⟨_,by rw[Qr,q4,Qo _ _ _ _ _ _ _ _ _ h1 h2],fun k hk aT=>?_,by rw[Tr.get_put,if_pos rfl]⟩;have:k≠q:=fun e=>aT len 0 true (by rw[e]);rw[Tr.get_put,if_neg (by omega),Tr.get_put,if_neg this]
def zM5 {lo n:Nat}{h:Tr ABlk}{v:AV}{ta tb:List ByteArray}(o:mD 9 1 lo h n v (bp ta) ta.length)(eE:lo≤n)(hl:ta.length+tb.length≤16777216):
  ∃v' g n',Md true (rB 1 (fe tb) h) 9 1 v h n=.val v' g n'∧n≤n'∧(∀k,k<lo→g.get k=h.get k)∧mD 9 1 lo g n' v' (bp (ta++tb)) (ta++tb).length:=by
 cases tb with
 |nil=>
  rw[show fe []=.sl0 from rfl,zUy,X9]
  rcases o with⟨h0,h1,rfl⟩ |⟨q,q1,q2,rfl,q4⟩
  ·refine⟨.sl0,h,n,rfl,ae _,fun _ _=>rfl,.inl ⟨by simpa using h0,by simpa using h1,rfl⟩⟩
  ·refine⟨_,_,_,by rw[show dS ([]:List AV)=true from rfl,Qr,q4,Qo _ _ _ _ _ _ _ _ _ (by rw[uD];omega) (by omega)],Nat.le_succ _,fun k hk=>?_,.inr ⟨n,eE,Nat.lt_succ_self _,by simp,by rw[Tr.get_put,if_pos rfl];simp⟩⟩;rw[Tr.get_put,if_neg (by omega),Tr.get_put,if_neg (by omega)]
 |cons x l=>
  rw[show fe (x::l)=.fz 1 false (bp (x::l)) from by simp[fe],zSd,X9,zFn,EB,uD];obtain⟨g,g1,g2,g3⟩:=o.app (m:=(x::l).length) (news:=bp (x::l)) eE (by simp) (by rw[uD];omega) hl;refine⟨_,g,_,g1,Nat.le_succ _,fun k hk=>g2 k (by omega) fun l' cp op e=>?_,.inr ⟨n,eE,Nat.lt_succ_self _,by rw[List.length_append],by rw[g3];simp[bp]⟩⟩
  rcases o with⟨_,_,rfl⟩ |⟨q,q1,q2,rfl,q4⟩
  ·cases e
  ·cases e;omega
def zFs (A B:List AV)(v:AV)(hA:A.length=23)(hB:B.length=23):(A++(B++[v])).length=47∧(∀hh,(A++(B++[v]))[46]'hh=v)∧∀u,aI (A++(B++[v])) 46 [u]=A++(B++[u]):=by
 have h0:(A++B).length=46:=by simp;omega
 refine⟨by simp;omega,fun hh=>?_,fun u=>?_⟩
 ·simp only[← List.append_assoc];rw[List.getElem_append_right (by omega)];simp[h0]
 ·rw[← List.append_assoc,← List.append_assoc];unfold aI;rw[List.take_append_of_le_length (by omega),ar (by omega),al (by simp;omega)];simp
def MJ {g:Tr ABlk}{F:Nat→Prop}{b:Nat}{s:List ByteArray}{cp esz:Nat}{op opn:Bool}(hF:F b)(hg:g.get b=some (bx 9 (bp s) opn esz)):Fy g F (.sl b 0 s.length cp op) (.fz 1 false (bp s)):=
 .slz b 0 _ cp op 9 _ _ opn esz 1 (bp s) (bp s) (bp s) hF hg (by simp[bp]) (fun j hj=>by rw[Nat.zero_add,fX]) (dJ.same _) (SM s) (uD s)
def dJ.appd {g:Tr ABlk}{F:Nat→Prop}{a b:List AV}(h:dJ g F a b):∀l:List AV,dJ g F (l++a) (l++b)
 |[]=>h
 |v::l=>.cons _ _ _ _ (.same v) (dJ.appd h l)
def zUd {g:Tr ABlk}{F:Nat→Prop}{i:Nat}{A B:List AV}{v u:AV}(hF:F i)(hg:g.get i=some (bx 81 (A++(B++[v])) false 0))(hv:Fy g F v u):Fy g F (.ptr i 0) (.ip (A++(B++[u]))):=
 .pin i 0 81 _ _ false 0 (A++(B++[v])) _ hF hg (by simp) (fun j hj=>by rw[Nat.zero_add,fX]) (dJ.appd (dJ.appd (.cons _ _ _ _ hv .nil) B) A)
def Qt:∀l:List Fc,rD 4 (aN l) (l.flatMap Fc.cs)
 |[]=>rfl
 |x::l=>⟨x.cs,l.flatMap Fc.cs,by simp,rfl,by cases x;rfl,.inl rfl,Qt l⟩
def X1 {g:Tr ABlk}{F:Nat→Prop}{b:Nat}{s:List Fc}{cp esz:Nat}{op opn:Bool}(hF:F b)(hg:g.get b=some (bx 65 (s.flatMap Fc.cs) opn esz)):Fy g F (.sl b 0 s.length cp op) (.fz 4 false (aN s)):=
 .slz b 0 _ cp op 65 _ _ opn esz 4 (s.flatMap Fc.cs) (s.flatMap Fc.cs) (aN s) hF hg (by simp) (fun j hj=>by rw[Nat.zero_add,fX]) (dJ.same _) (Qt s) (Ix s)
def zF2 (A B:List AV){v u:AV}(h:Wk v u):∀l:List AV,fS (l++[v]) (l++[u])
 |[]=>.cons _ _ _ _ h .nil
 |x::l=>.cons _ _ _ _ (.same x) (zF2 A B h l)
def yV (a:Pv):dS a.cs=true:=by
 rcases a with⟨id,rank,kind,name,value,⟨w1,w2,w3,w4,w5⟩,ex,⟨b1,b2,b3,b4⟩,⟨e1,e2,e3,e4⟩,⟨g1,g2,g3,g4⟩⟩
 rfl
def zzv (a:Pv):(a.cs.drop 5).take 5=a.when_.cs:=by
 rcases a with⟨id,rank,kind,name,value,⟨w1,w2,w3,w4,w5⟩,ex,⟨b1,b2,b3,b4⟩,⟨e1,e2,e3,e4⟩,⟨g1,g2,g3,g4⟩⟩
 rfl
def XP (A B T:List AV)(hA:A.length=23)(hB:B.length=23) (j:Nat)(hj:j<2):((A++(B++T)).drop (j * 23)).take 23=if j=0 then A else B:=by
 rcases (by omega:j=0∨j=1) with rfl |rfl
 ·simp[hA]
 ·rw[show 1 * 23=A.length by omega,List.drop_left];simp[hB]
def QA (w:Bool)(a b:Pv)(d:List Fc)(ha:a.when_.size≤1000000)(hb:b.when_.size≤1000000)(hd:d.length≤1000000)(hs:∀f∈d,f.name.size≤1000000000)
  (hea:a.except.length≤1000000000) (heb:b.except.length≤1000000000) (O7:a.begin_.size≤1000000000∧a.end_.size≤1000000000∧a.again.size≤1000000000) (fK:b.begin_.size≤1000000000∧b.end_.size≤1000000000∧b.again.size≤1000000000):
  aM 12 [.agg a.cs,.agg b.cs,.agg [.fz 4 w (aN d)]] (jx a b d).v:=by
 refine aB.mkW fun h nx R hR=>aP zUe (sz:=132) (rs:=[.cell 6 43,.tmp 7]) ?_;have nr:=Is w d (by omega) hs;have Nz:=zF6 a.when_ (by omega);have NA:=zF6 b.when_ (by omega)
 change aB _ _ _ _ (fe (eM a.when_)) at Nz
 change aB _ _ _ _ (fe (eM b.when_)) at NA
 have tR:=YI a.when_;have GJ:=YI b.when_;have hCa:=X8 w d a.when_ ha (by omega) (by omega);have hCb:=X8 w d b.when_ hb (by omega) (by omega);have od:=a.cs_len;have kO:=b.cs_len;have UU:=yV a;have UX:=yV b;obtain⟨A,hA⟩:∃A,A=a.cs:=⟨_,rfl⟩;obtain⟨B,hB⟩:∃B,B=b.cs:=⟨_,rfl⟩;rw[← hA]at od UU ⊢;rw[← hB]at kO UX ⊢;have M0:A.take 23=A:=ar (by omega);have M1:B.take 23=B:=ar (by omega);obtain⟨res,aH⟩:∃r,r=jx a b d:=⟨_,rfl⟩;rw[← aH]at hR;unfold jx at aH;have gP:∀(k e:Int) (g:Tr ABlk) (ny:Nat),az nx h g→res=⟨k,[],e⟩→R (.tup [.agg [.int .i64 k,.sl0],.int .i64 e]) g ny:=fun k e g ny hE hr=>by
  rw[hr]at hR;exact hR _ _ _ (.tup [.agg [.int .i64 k,.sl0],.int .i64 e]) hE (.tup _ _ (.cons _ _ _ _ (.agg _ _ (.cons _ _ _ _ (.int _ _) (.cons _ _ _ _ .sl0 .nil))) (.cons _ _ _ _ (.int _ _) .nil))) (.tup _ _ (.cons _ _ _ _ (.agg _ _ (.cons _ _ _ _ (.same _) (.cons _ _ _ _ (.sl0 1 false) .nil))) (.cons _ _ _ _ (.same _) .nil)))
 have XC:¬nx=nx+1:=by omega
 have J5:¬nx=nx+1+1:=by omega
 have XD:¬nx=nx+1+1+1:=by omega
 have z12:¬nx+1=nx+1+1:=by omega
 have z13:¬nx+1=nx+1+1+1:=by omega
 have z23:¬nx+1+1=nx+1+1+1:=by omega
 simp[go_sem];refine aB.use nr ?_;cases kQ:dH d with
 |false=>
  rw[if_pos kQ]at aH;simp[go_sem,aA,aI];refine gP _ _ _ _ ?_ aH;simp(disch:=omega)only[aK,az.refl]
 |true=>
  rw[if_neg (by rw[kQ];simp)]at aH;simp[go_sem,aA,od,kO,M0,M1,aI,J5,XD];generalize zZ:A++_=PQ;have I4:PQ.length=46:=by rw[← zZ];simp[od,kO]
  have Nv:PQ.take 23=A:=by rw[← zZ];exact XP A B _ od kO 0 (by omega)
  have uN:(PQ.drop 23).take 23=B:=by rw[← zZ];exact XP A B _ od kO 1 (by omega)
  clear zZ;have Ul:(A.drop 5).take 5=a.when_.cs:=by rw[hA];exact zzv a
  have CN:(B.drop 5).take 5=b.when_.cs:=by rw[hB];exact zzv b
  refine bF (fun mm st=>∃tm h' n' j,st=.mk tm h' n' []∧mm=2-j∧j≤2∧tm.get 3=some (.ptr nx 0)∧tm.get 4=some (.ptr (nx+1) 0)∧tm.get 5=some (.ptr (nx+1+1) 0)∧tm.get 6=some (.ptr (nx+1+1+1) 0)∧tm.get 26=some (.sl (nx+1+1+1+1) 0 2 2 false)∧tm.get 27=some (.int .i64 2)∧tm.get 28=some (.int .i64 (j:Int))∧
   h'.get nx=some (bx 30 A false 0)∧h'.get (nx+1)=some (bx 30 B false 0)∧h'.get (nx+1+1)=some (bx 35 [.fz 4 w (aN d)] false 0)∧h'.get (nx+1+1+1)=some (bx 43 [.int .i64 0,.sl0] false 0)∧h'.get (nx+1+1+1+1)=some (bx 30 PQ false 0)∧az nx h h'∧nx+5≤n'∧RowKit.Hid ((1≤j→kJ d a.when_=0)∧(2≤j→kJ d b.when_=0))) ⟨2,_,_,_,0,rfl,rfl,by omega,?_⟩ ?_
  ·simp[go_sem,J5,XD];refine⟨fun q=>by omega,?_,Lib.hid trivial⟩;simp(disch:=omega)only[aK,az.refl]
  ·rintro mm st ⟨tm,h',n',j,rfl,rfl,hj,t3,t4,t5,t6,t26,t27,t28,g0,g1,g2,g3,g4,hE,ei,hc⟩ J hJ
   refine bl ?_;have y0:¬nx=n':=by omega
   have y1:¬nx+1=n':=(by omega);have y2:¬nx+1+1=n':=(by omega);have y3:¬nx+1+1+1=n':=(by omega);have y4:¬nx+1+1+1+1=n':=by omega
   rcases (by omega:j=0∨j=1∨j=2) with rfl |rfl |rfl
   ·simp[go_sem,t26,t27,t28,g4,I4,Nv,od,UU,aI];refine eI [] [5,6] [] ?_;simp[go_sem,t5,g2,od,Ul,y2];refine dV Nz ?_;simp[go_sem,cW];refine dV hCa ?_
    by_cases hq:kJ d a.when_=0
    ·simp[go_sem,t28,hq];refine hJ (2-1) _ (by omega) ⟨_,_,_,1,rfl,rfl,by omega,?_⟩;simp[go_sem,t3,t4,t5,t6,t26,t27,g0,g1,g2,g3,g4,y0,y1,y2,y3,y4];refine⟨?_,?_⟩
     ·rfl
     ·refine⟨?_,by omega,Lib.hid hq⟩;simp(disch:=omega)only[aK,hE]
    ·rw[if_pos hq]at aH;simp[go_sem,t6,g3,y3,hq,aI];refine gP _ _ _ _ ?_ aH;simp(disch:=omega)only[aK,hE]
   ·simp[go_sem,t26,t27,t28,g4,I4,uN,kO,UX,aI];refine eI [] [5,6] [] ?_;simp[go_sem,t5,g2,kO,CN,y2];refine dV NA ?_;simp[go_sem,cW];refine dV hCb ?_
    by_cases hq:kJ d b.when_=0
    ·simp[go_sem,t28,hq];refine hJ (2-2) _ (by omega) ⟨_,_,_,2,rfl,rfl,by omega,?_⟩;simp[go_sem,t3,t4,t5,t6,t26,t27,g0,g1,g2,g3,g4,y0,y1,y2,y3,y4];refine⟨?_,?_⟩
     ·rfl
     ·refine⟨?_,by omega,Lib.hid ⟨hc.out.1 (by omega),hq⟩⟩;simp(disch:=omega)only[aK,hE]
    ·rw[if_neg (by simpa using hc.out.1 (by omega)),if_pos hq]at aH;simp[go_sem,t6,g3,y3,hq,aI];refine gP _ _ _ _ ?_ aH;simp(disch:=omega)only[aK,hE]
   ·obtain⟨mK,lB⟩:=hc.out;rw[if_neg (by simpa using mK (by omega)),if_neg (by simpa using lB (by omega))]at aH;have pX:∀x∈eM a.when_++eM b.when_,x.size≤1000:=fun x hx=>by
     have key:∀f:Fm,kJ d f=0→∀x∈eM f,x.size≤1000:=fun f h0=>ZH [] f (Mo (fun s h=>by have:=Ml h;omega) h0).1 (by intro x hx;cases hx)
     rcases List.mem_append.1 hx with h |h
     ·exact key _ (mK (by omega)) x h
     ·exact key _ (lB (by omega)) x h
    clear hc mK lB;simp[go_sem,t27,t28];refine TE mixed iQ (fun k=>if k=0 then .agg A else if k=1 then .agg B else if k=2 then .ptr (nx+1+1) 0 else .fz 4 w (aN d)) [(0,44),(1,45),(2,46),(3,47)] [(4,[(2,46),(3,47)]),(5,[]),(6,[(0,44),(1,45)]),(7,[]),(8,[])] (by kernel_rfl) (by decide) ?_;simp[go_sem,jq,k7,t3,t4,t5,g0,g1,g2,od,kO,M0,M1];refine zLe w d (by omega) _ _ _ fun v g ny uJ AT hO=>?_;have Pm:v.cells=[v]:=by
     rcases hO with⟨_,_,rfl⟩ |⟨q,_,_,rfl,_⟩ <;> rfl
    have hvo:dS [v]=true:=by
     rcases hO with⟨_,_,rfl⟩ |⟨q,_,_,rfl,_⟩ <;> rfl
    have Jt:=Pm;rw[AV.cells.eq_def]at Jt;have k0:g.get nx=some (bx 30 A false 0):=by rw[uJ _ (by omega)];exact g0
    have k1:g.get (nx+1)=some (bx 30 B false 0):=by rw[uJ _ (by omega)];exact g1
    have k2:g.get (nx+1+1)=some (bx 35 [.fz 4 w (aN d)] false 0):=by rw[uJ _ (by omega)];exact g2
    have k3:g.get (nx+1+1+1)=some (bx 43 [.int .i64 0,.sl0] false 0):=by rw[uJ _ (by omega)];exact g3
    simp[go_sem,aA,jq,k7,t3,t4,k0,k1,od,kO,M0,M1,Jt,aI];generalize Ja:Tr.put _ (ny+1) (some (ABlk.map [] 0))=g5;have E5:az ny g g5:=by
     rw[← Ja];simp(disch:=omega)only[aK,az.refl]
    have m0:g5.get ny=some (bx 81 (A++(B++[v])) false 0):=by
     rw[← Ja,Tr.get_put,if_neg (by omega),Tr.get_put,if_pos rfl];simp[od,kO,al];rw[zJb _ _ _ od kO,List.append_assoc]
    have m1:g5.get (ny+1)=some (jm []):=by rw[← Ja,Tr.get_put,if_pos rfl];rfl
    clear Ja;have l0:g5.get nx=some (bx 30 A false 0):=by rw[E5 _ (by omega)];exact k0
    have l1:g5.get (nx+1)=some (bx 30 B false 0):=by rw[E5 _ (by omega)];exact k1
    have l2:g5.get (nx+1+1)=some (bx 35 [.fz 4 w (aN d)] false 0):=by rw[E5 _ (by omega)];exact k2
    have l3:g5.get (nx+1+1+1)=some (bx 43 [.int .i64 0,.sl0] false 0):=by rw[E5 _ (by omega)];exact k3
    have UL:mD 65 4 n' g5 ny v (d.flatMap Fc.cs) d.length:=by
     rcases hO with hO |⟨q,q1,q2,q3,q4⟩
     ·exact .inl hO
     ·exact .inr ⟨q,q1,q2,q3,by rw[E5 q q2];exact q4⟩
    have uK:az nx h g5:=fun k hk=>by rw[E5 k (by omega),uJ k (by omega)];exact hE k hk
    clear hO E5 k0 k1 k2 k3 g0 g1 g2 g3 g4 uJ hE;refine TE mixed iQ (fun k=>if k=0 then .ptr nx 5 else if k=1 then .agg a.when_.cs else if k=4 then .ptr (nx+1) 5 else if k=5 then .agg b.when_.cs else .int .i64 0) [(0,53),(1,54),(4,57),(5,58),(9,62)] [(2,[(0,53),(1,54)]),(3,[]),(6,[(4,57),(5,58)]),(7,[]),(8,[])] (by kernel_rfl) (by decide) ?_;simp[go_sem,jq,k7,t3,t4,l0,l1,od,kO,Ul,CN];refine aB.use Nz ?_;simp[go_sem,aA,jq,k7,t4,l1,kO,CN];refine zUm (eM a.when_) (by omega) _ _ _ fun v6 g6 n6 wj hn6 UM=>?_;have p0:g6.get nx=some (bx 30 A false 0):=by rw[wj _ (by omega)];exact l0
    have p1:g6.get (nx+1)=some (bx 30 B false 0):=by rw[wj _ (by omega)];exact l1
    have p2:g6.get (nx+1+1)=some (bx 35 [.fz 4 w (aN d)] false 0):=by rw[wj _ (by omega)];exact l2
    have p3:g6.get (nx+1+1+1)=some (bx 43 [.int .i64 0,.sl0] false 0):=by rw[wj _ (by omega)];exact l3
    have p4:g6.get ny=some (bx 81 (A++(B++[v])) false 0):=by rw[wj _ (by omega)];exact m0
    have p5:g6.get (ny+1)=some (jm []):=by rw[wj _ (by omega)];exact m1
    have UN:mD 65 4 n' g6 ny v (d.flatMap Fc.cs) d.length:=by
     rcases UL with hO |⟨q,q1,q2,q3,q4⟩
     ·exact .inl hO
     ·exact .inr ⟨q,q1,q2,q3,by rw[wj q (by omega)];exact q4⟩
    have Uv:az nx h g6:=fun k hk=>by rw[wj k (by omega)];exact uK k hk
    clear UL uK wj l0 l1 l2 l3 m0 m1;simp[go_sem,aA,jq,k7,t4,p1,kO,CN];refine aB.use NA ?_;obtain⟨v8,g8,n8,e8,hn8,AB,I2⟩:=zM5 UM (by omega) (tb:=eM b.when_) (by omega);obtain⟨ts,e9⟩:∃ts,ts=eM a.when_++eM b.when_:=⟨_,rfl⟩;rw[← e9]at aH I2 pX;have UC:=I2.len;simp[go_sem,aA,jq,k7,e8,UC];have Uw:az nx h g8:=fun k hk=>by rw[AB k (by omega)];exact Uv k hk
    have r2:g8.get (nx+1+1)=some (bx 35 [.fz 4 w (aN d)] false 0):=by rw[AB _ (by omega)];exact p2
    have r3:g8.get (nx+1+1+1)=some (bx 43 [.int .i64 0,.sl0] false 0):=by rw[AB _ (by omega)];exact p3
    have r4:g8.get ny=some (bx 81 (A++(B++[v])) false 0):=by rw[AB _ (by omega)];exact p4
    have r5:g8.get (ny+1)=some (jm []):=by rw[AB _ (by omega)];exact p5
    have UO:mD 65 4 n' g8 ny v (d.flatMap Fc.cs) d.length:=UN.ext (fun k h1 h2=>AB k (by omega)) (ae _);clear UN Uv p0 p1 p2 p3 p4 p5 UM UC e8;have Jq:ts.length≤2000000:=by rw[e9,List.length_append];omega
    obtain⟨L9,v9,Fl,wB,hv9⟩:∃(L9:List Nat) (v9:AV),(∀k,k<ny+1+1→¬k∈L9)∧Fy g8 (fun a=>a∈L9) v8 v9∧(ts≠[]→v9=.fz 1 false (bp ts)):=by
     rcases I2 with⟨h0,_,_⟩ |⟨q,q1,q2,rfl,q4⟩
     ·have:ts=[]:=au h0;exact⟨[],v8,fun _ _=>by simp,.same _,fun h=>absurd this h⟩
     ·exact⟨[q],.fz 1 false (bp ts),fun k hk=>by simp;omega,MJ (by simp) q4,fun _=>rfl⟩
    obtain⟨g9,tq⟩:∃g9,g9=jA g8 L9:=⟨_,rfl⟩;have ot:∀k,k<ny+1+1→g9.get k=g8.get k:=fun k hk=>by rw[tq];exact oF (Fl k hk)
    have r2':g9.get (nx+1+1)=some (bx 35 [.fz 4 w (aN d)] false 0):=by rw[ot _ (by omega)];exact r2
    have r3':g9.get (nx+1+1+1)=some (bx 43 [.int .i64 0,.sl0] false 0):=by rw[ot _ (by omega)];exact r3
    have r4':g9.get ny=some (bx 81 (A++(B++[v])) false 0):=by rw[ot _ (by omega)];exact r4
    have r5':g9.get (ny+1)=some (jm []):=by rw[ot _ (by omega)];exact r5
    have oR:mD 65 4 n' g9 ny v (d.flatMap Fc.cs) d.length:=UO.ext (fun k h1 h2=>ot k (by omega)) (ae _);have yl:az nx h g9:=fun k hk=>by rw[ot k (by omega)];exact Uw k hk
    refine Co (fun a=>a∈L9) (h':=g9) (by rw[tq];exact iG.kill _) (qw.refl.put (k:=60) (by simp[go_sem]) wB) ?_;clear I2 wB tq ot Fl r2 r3 r4 r5 UO Uw AB;refine bF (fun mm st=>∃tm h' n1 k seen D vD,st=.mk tm h' n1 []∧mm=ts.length-k∧k≤ts.length∧tm.get 5=some (.ptr (nx+1+1) 0)∧tm.get 6=some (.ptr (nx+1+1+1) 0)∧tm.get 11=some (.ptr ny 0)∧tm.get 12=some (.map (ny+1))∧tm.get 60=some v9∧tm.get 61=some (.int .i64 (ts.length:Int))∧tm.get 62=some (.int .i64 (k:Int))∧
     h'.get (nx+1+1)=some (bx 35 [.fz 4 w (aN d)] false 0)∧h'.get (nx+1+1+1)=some (bx 43 [.int .i64 0,.sl0] false 0)∧h'.get ny=some (bx 81 (A++(B++[vD])) false 0)∧h'.get (ny+1)=some (jm seen)∧mD 65 4 n' h' n1 vD (D.flatMap Fc.cs) D.length∧az nx h h'∧ny+2≤n1∧D.length≤d.length+k∧(∀f∈D,f.name.size≤1000000000)∧RowKit.Hid (oG d ts [] d=oG d (ts.drop k) seen D)) ⟨ts.length,_,_,_,0,[],d,v,rfl,by simp,by simp,?_⟩ ?_
    ·simp[go_sem,t5,t6,r2',r3',r4',r5'];exact⟨oR.ext (fun _ _ _=>rfl) (by omega),yl,by omega,hs,Lib.hid trivial⟩
    ·rintro mm st ⟨tm,h',n1,k,seen,D,vD,rfl,rfl,hk,t5,t6,t11,t12,t60,t61,t62,g2,g3,g4,g5,yt,hE,u9,CQ,Na,bM⟩ J hJ
     refine bl ?_;obtain⟨a1,a2,a3⟩:=zFs A B vD od kO
     by_cases ay:k<ts.length
     ·obtain⟨x,hx⟩:∃x,x=ts[k]:=⟨_,rfl⟩;have Ba:=hv9 (by intro e;rw[e]at ay;simp at ay);have xc:=t60;rw[Ba]at xc;have aF:=bM.out;rw[aj ay,← hx,oG]at aF;simp[go_sem,t5,xc,t61,t62,g2,ay,← hx];refine aB.use (zxo w d x (by omega)) ?_
      by_cases jW:bj (fun f:Fc=>decide (f.name=x)) d<0
      ·have wE:¬0≤bj (fun f:Fc=>decide (f.name=x)) d:=(by omega);rw[if_neg (by simpa using jW)]at aF;have y1:¬ny=ny+1:=(by omega);have y2:¬nx+1+1=ny+1:=(by omega);have y3:¬nx+1+1+1=ny+1:=by omega
       by_cases mO:x∈seen
       ·rw[if_pos mO]at aF;obtain⟨j,f1,f2⟩:=Kd 0 mO;rw[Nat.zero_add]at f2;have f3:=Tm f1;simp[go_sem,aA,t12,t62,g5,wE,jm,f2,f3,bX];refine hJ (ts.length-(k+1)) _ (by omega) ⟨_,_,_,k+1,seen,D,vD,rfl,rfl,by omega,?_⟩;simp(disch:=omega) [go_sem,t5,t6,t11,t12,xc,t61,g2,g3,g4,aS];refine⟨Ba.symm,fun q=>by omega,fun q=>by omega,rfl,yt.ext2 (fun q h1 h2 h3=>by rw[Tr.get_put,if_neg (by intro e;rw[e,g5]at h3;simp[bx,jm]at h3)]) (ae _),?_,u9,by omega,Na,Lib.hid aF⟩;simp(disch:=omega)only[aK,hE]
       ·rw[if_neg mO]at aF;have f2:sO x seen 0=none:=zzx 0 mO;have Pm:vD.cells=[vD]:=by
         rcases yt with⟨_,_,rfl⟩ |⟨q,_,_,rfl,_⟩ <;> rfl
        have Jt:=Pm;rw[AV.cells.eq_def]at Jt;have Ns:=yt.ext (g:=h'.put n1 (some (bx 65 [.bs x,.int .i64 1,.int .i64 0,.int .i64 1] false 0))) (n':=n1+1) (fun q h1 h2=>by rw[Tr.get_put,if_neg (by omega)]) (by omega);obtain⟨gA,e1,e2,e3⟩:=Ns.app (m:=1) (news:=[.bs x,.int .i64 1,.int .i64 0,.int .i64 1]) (by omega) (by omega) (by rw[zNt]) (by omega);have wS:∀k,k<n1→h'.get k≠some (bx 65 (D.flatMap Fc.cs) true 4)→gA.get k=h'.get k:=fun k h1 h2=>by
         rw[e2 k (by omega) fun l cp op e=>?_,Tr.get_put,if_neg (by omega)]
         rcases yt with⟨_,_,rfl⟩ |⟨q,_,_,rfl,q4⟩
         ·cases e
         ·cases e;exact h2 q4
        have b2:gA.get (nx+1+1)=some (bx 35 [.fz 4 w (aN d)] false 0):=by
         rw[wS _ (by omega) (by rw[g2];intro e;simp[bx]at e)];exact g2
        have b3:gA.get (nx+1+1+1)=some (bx 43 [.int .i64 0,.sl0] false 0):=by
         rw[wS _ (by omega) (by rw[g3];intro e;simp[bx]at e)];exact g3
        have b4:gA.get ny=some (bx 81 (A++(B++[vD])) false 0):=by
         rw[wS _ (by omega) (by rw[g4];intro e;simp[bx]at e)];exact g4
        have b5:gA.get (ny+1)=some (jm seen):=by
         rw[wS _ (by omega) (by rw[g5];intro e;simp[bx,jm]at e)];exact g5
        simp[go_sem,aA,t11,t12,g4,g5,wE,jm,f2,bX,a1,a2,aI];simp[go_sem,t12,t62,jm,f2,a1,a3,e1,b4,b5];refine hJ (ts.length-(k+1)) _ (by omega) ⟨_,_,_,k+1,seen++[x],D++[⟨x,1,0,1⟩],.sl (n1+1) 0 (D.length+1) 0 true,rfl,rfl,by omega,?_⟩;have y4:¬nx+1+1=ny:=by omega
        have y5:¬nx+1+1+1=ny:=(by omega);simp(disch:=omega) [go_sem,t5,t6,t11,t12,xc,t61,b2,b3,y4,y5,aS];refine⟨Ba.symm,fun q=>by omega,?_,.inr ⟨n1+1,by omega,by omega,rfl,?_⟩,?_,by omega,by omega,?_,Lib.hid aF⟩
        ·unfold jm;have:=Ip x seen 0;rw[Nat.zero_add]at this;rw[← this,List.length_append];rfl
        ·rw[Tr.get_put,if_neg (by omega),Tr.get_put,if_neg (by omega),e3];rfl
        ·intro q hq;rw[Tr.get_put,if_neg (by omega),Tr.get_put,if_neg (by omega),e2 q (by omega) (fun l cp op e=>by
          rcases yt with⟨_,_,rfl⟩ |⟨q2,q3,_,rfl,_⟩
          ·cases e
          ·cases e;omega),Tr.get_put,if_neg (by omega)]
         exact hE q hq
        ·rintro f (hf |rfl)
         ·exact Na f hf
         ·have:=pX x (by rw[hx];exact ah ay);show x.size≤_;omega
      ·have wE:0≤bj (fun f:Fc=>decide (f.name=x)) d:=(by omega);rw[if_pos jW]at aF;rw[aF]at aH;simp[go_sem,aA,t6,g3,wE,aI];refine gP _ _ _ _ ?_ aH;simp(disch:=omega)only[aK,hE]
     ·have Vb:oG d ts [] d=some D:=by
       rw[bM.out,al (by omega)];rfl
      rw[Vb]at aH;simp only at aH;unfold Bz at aH;have UD:=yt.len;have y2:¬nx+1+1+1=n1:=by omega
      by_cases Uk:60<D.length
      ·have zS:(60:Int)<(D.length:Int):=(by omega);rw[if_pos Uk]at aH;simp[go_sem,t6,t11,t61,t62,g3,g4,ay,a1,a2,UD,zS,aI];refine gP _ _ _ _ ?_ aH;simp(disch:=omega)only[aK,hE]
      ·have zS:¬(60:Int)<(D.length:Int):=(by omega);rw[if_neg Uk]at aH;simp[go_sem,t11,t61,t62,g4,ay,a1,a2,UD,zS,aI];generalize Nx:h'.put n1 (some (bx 86 _ false 0))=qH;have q0:qH.get n1=some (bx 86 [.int .i64 1,.func 43 [.ptr ny 0] [],.int .i64 2,.func 44 [.ptr ny 0] [],.int .i64 3,.func 45 [.ptr ny 0] []] false 0):=by rw[← Nx,Tr.get_put,if_pos rfl]
       have q1:∀k,k<n1→qH.get k=h'.get k:=fun k hk=>by rw[← Nx,Tr.get_put,if_neg (by omega)]
       clear Nx;have q2:qH.get ny=some (bx 81 (A++(B++[vD])) false 0):=by rw[q1 _ (by omega)];exact g4
       obtain⟨LF,vF,IY,Vt,Vu⟩:∃(LF:List Nat) (vF:AV),(ny∈LF∧∀k∈LF,n'≤k∧k<n1)∧Fy qH (fun a=>a∈LF) vD vF∧Wk vF (.fz 4 false (aN D)):=by
        rcases yt with⟨h0,_,rfl⟩ |⟨q,e1,e2,rfl,e4⟩
        ·have:D=[]:=au h0;subst this;exact⟨[ny],.sl0,⟨by simp,by intro k hk;simp at hk;omega⟩,.same _,.sl0 4 false⟩
        ·exact⟨[ny,q],.fz 4 false (aN D),⟨by simp,by intro k hk;simp at hk;omega⟩,X1 (by simp) (by rw[q1 _ e2];exact e4),.same _⟩
       have tn:=zUd (F:=fun a=>a∈LF) IY.1 q2 Vt;obtain⟨PV,Nw⟩:∃PV,PV=A++(B++[vF]):=⟨_,rfl⟩;rw[← Nw]at tn;obtain⟨hC,Jc⟩:∃hC,hC=(jA qH LF).put n1 (some (bx 86 [.int .i64 1,.func 43 [.ip PV] [],.int .i64 2,.func 44 [.ip PV] [],.int .i64 3,.func 45 [.ip PV] []] false 0)):=⟨_,rfl⟩;have Vf:¬n1∈LF:=fun q=>by have:=IY.2 _ q;omega
       refine Co (fun a=>a∈LF) (h':=hC) ?_ qw.refl ?_
       ·rw[Jc];refine iG.put (iG.kill _) Vf q0 (.cells _ _ _ _ _ _ fun a ha v bM=>?_);rw[fX]at bM ⊢;have uT:∀f:FuncId,Fy qH (fun a=>a∈LF) (.func f [.ptr ny 0] []) (.func f [.ip PV] []):=fun f=>.func f _ _ _ _ (.cons _ _ _ _ tn .nil) .nil
        rcases a with _ |_ |_ |_ |_ |_ |a
        ·simp at bM;subst bM;exact⟨_,rfl,.same _⟩
        ·simp at bM;subst bM;exact⟨_,rfl,uT 43⟩
        ·simp at bM;subst bM;exact⟨_,rfl,.same _⟩
        ·simp at bM;subst bM;exact⟨_,rfl,uT 44⟩
        ·simp at bM;subst bM;exact⟨_,rfl,.same _⟩
        ·simp at bM;subst bM;exact⟨_,rfl,uT 45⟩
        ·simp at bM
       have s0:hC.get n1=some (bx 86 [.int .i64 1,.func 43 [.ip PV] [],.int .i64 2,.func 44 [.ip PV] [],.int .i64 3,.func 45 [.ip PV] []] false 0):=by rw[Jc,Tr.get_put,if_pos rfl]
       have s1:∀k,k<n'→hC.get k=h'.get k:=fun k hk=>by
        rw[Jc,Tr.get_put,if_neg (by omega),oF (fun q=>by have:=IY.2 _ q;omega),q1 _ (by omega)]
       have s3:hC.get (nx+1+1+1)=some (bx 43 [.int .i64 0,.sl0] false 0):=by rw[s1 _ (by omega)];exact g3
       have hEC:az nx h hC:=fun k hk=>by rw[s1 k (by omega)];exact hE k hk
       have Ux:=zIg a b vF hea heb;have eW:=zKw a b vF O7 fK;have Nn:aM 45 [.ip PV] (kj a.when_ b.when_ D).v:=by
        have gQ:=zPc false a b D ha hb (by omega) Na;refine gQ.wk (.cons _ _ _ _ (.ip _ _ ?_) .nil) (.same _);rw[Nw,hA,hB,← List.append_assoc,← List.append_assoc];exact zF2 A B Vu _
       rw[← hA,← hB,← Nw]at Ux eW;clear Jc s1 tn Vt Vu IY Vf q0 q1 q2 g4 g5 yt bM Vb;refine bF (fun mm st=>∃tm h' n2 j,st=.mk tm h' n2 []∧mm=3-j∧j≤3∧tm.get 6=some (.ptr (nx+1+1+1) 0)∧tm.get 108=some (.sl n1 0 3 3 false)∧tm.get 109=some (.int .i64 3)∧tm.get 110=some (.int .i64 (j:Int))∧
        h'.get (nx+1+1+1)=some (bx 43 [.int .i64 0,.sl0] false 0)∧h'.get n1=some (bx 86 [.int .i64 1,.func 43 [.ip PV] [],.int .i64 2,.func 44 [.ip PV] [],.int .i64 3,.func 45 [.ip PV] []] false 0)∧az nx h h'∧n1<n2∧RowKit.Hid ((1≤j→sq a b)∧(2≤j→(fP a.begin_ b.begin_ && fP a.end_ b.end_ && fP a.again b.again)=true)∧(3≤j→(kj a.when_ b.when_ D).e=0∧(kj a.when_ b.when_ D).f=false))) ⟨3,_,_,_,0,rfl,rfl,by omega,?_⟩ ?_
       ·simp[go_sem,t6,s3,s0];exact⟨hEC,Lib.hid trivial⟩
       ·rintro mm st ⟨tm,h',n2,j,rfl,rfl,hj,t6,t108,t109,t110,g3,g4,hE,qX,hc⟩ J hJ
        refine bl ?_;obtain⟨mK,lB,FM⟩:=hc.out;have x1:¬n1=n2:=by omega
        have x2:¬nx+1+1+1=n2:=by omega
        rcases (by omega:j=0∨j=1∨j=2∨j=3) with rfl |rfl |rfl |rfl
        ·simp[go_sem,t108,t109,t110,g4,aI];refine aB.use Ux ?_
         by_cases hf:sq a b
         ·simp[go_sem,aA,t110,hf];refine hJ (3-1) _ (by omega) ⟨_,_,_,1,rfl,rfl,by omega,?_⟩;simp(disch:=omega) [go_sem,t6,t108,t109,g3,g4,x1,x2,aS];refine⟨?_,Lib.hid hf⟩;simp(disch:=omega)only[aK,hE]
         ·rw[if_pos hf]at aH;simp[go_sem,aA,t6,g3,x2,aI,hf];refine gP _ _ _ _ ?_ aH;simp(disch:=omega)only[aK,hE]
        ·rw[if_neg (fun q=>q (mK (by omega)))]at aH;simp[go_sem,t108,t109,t110,g4,aI];refine aB.use eW ?_;cases hf:(fP a.begin_ b.begin_ && fP a.end_ b.end_ && fP a.again b.again) with
         |true=>
          simp[go_sem,aA,t110];refine hJ (3-2) _ (by omega) ⟨_,_,_,2,rfl,rfl,by omega,?_⟩;simp(disch:=omega) [go_sem,t6,t108,t109,g3,g4,x1,x2,aS];refine⟨?_,Lib.hid ⟨mK (by omega),by simpa using hf⟩⟩;simp(disch:=omega)only[aK,hE]
         |false=>
          rw[if_pos hf]at aH;simp[go_sem,aA,t6,g3,x2,aI];refine gP _ _ _ _ ?_ aH;simp(disch:=omega)only[aK,hE]
        ·rw[if_neg (fun q=>q (mK (by omega))),if_neg (by rw[lB (by omega)];simp)]at aH;simp[go_sem,t108,t109,t110];have Oi:kh (TI.mk (TypeDesc.slice 86) 1 24 (some AV.sl0) [(0,2,true)]) (AV.sl n1 0 3 3 false) (AV.int IntKind.i64 2) h' n2=.val (.ptr n1 4) h' n2:=rfl;simp[go_sem,g4,aI,Oi];refine aB.use Nn ?_;generalize kj a.when_ b.when_ D=CR0 at aH hJ FM;obtain⟨cf,cc,ce⟩:=CR0;simp only[CA.v]at aH FM ⊢
         by_cases he:ce=0
         ·subst he;rw[if_neg (by simp)]at aH;cases cf with
          |true=>
           rw[if_pos rfl]at aH;simp[go_sem,aA,t6,g3,x2,aI];rw[aH]at hR;refine hR _ _ _ _ ?_ (.tup _ _ (.cons _ _ _ _ (.agg _ _ (.cons _ _ _ _ (.int _ _) (.cons _ _ _ _ (Fz.same _ (by simp[plain,vP])) .nil))) (.cons _ _ _ _ (.int _ _) .nil))) (.same _);simp(disch:=omega)only[aK,hE]
          |false=>
           simp[go_sem,aA,t110];refine hJ (3-3) _ (by omega) ⟨_,_,_,3,rfl,rfl,by omega,?_⟩;simp(disch:=omega) [go_sem,t6,t108,t109,g3,g4,x1,x2,aS];refine⟨?_,Lib.hid ⟨mK (by omega),by simpa using lB (by omega)⟩⟩;simp(disch:=omega)only[aK,hE]
         ·rw[if_pos he]at aH;simp[go_sem,aA,t6,g3,x2,aI,he];refine gP _ _ _ _ ?_ aH;simp(disch:=omega)only[aK,hE]
        ·rw[if_neg (fun q=>q (mK (by omega))),if_neg (by rw[lB (by omega)];simp),if_neg (by rw[(FM (by omega)).1];simp),if_neg (by rw[(FM (by omega)).2];simp)]at aH;simp[go_sem,t6,t109,t110,g3,aI];refine gP _ _ _ _ ?_ aH;simp(disch:=omega)only[aK,hE]
mutual
def ZX:∀s:bB,fP s s=true
 |.mk o n d k=>by rw[fP,zz6 k];simp
def zz6:∀l:List bB,pj l l=true
 |[]=>rfl
 |s::l=>by rw[pj,ZX s,zz6 l];rfl
end
mutual
def bB.cs_plain:∀f:bB,bJ f.cs=true
 |.mk o n d k=>by simp[bB.cs,bJ,plain,zz7 k]
def zz7:∀l:List bB,bJ (mR l)=true
 |[]=>by simp[mR,bJ]
 |f::l=>by simp[mR,bJ,plain,bB.cs_plain f,zz7 l]
end
def zzj:∀l:List ByteArray,bJ (bp l)=true
 |[]=>rfl
 |x::l=>by rw[show bp (x::l)=.bs x::bp l from rfl];simp[bJ,plain,zzj l]
def zE:∀l m:List AV,bJ l=true→bJ m=true→bJ (l++m)=true
 |[],m,_,h=>h
 |v::l,m,h,h2=>by
  simp only[List.cons_append,bJ,ao]at h ⊢;exact⟨h.1,zE l m h.2 h2⟩
def Pv.cs_plain (a:Pv):bJ a.cs=true:=by
 unfold Pv.cs;refine zE _ _ (by simp[bJ,plain]) (zE _ _ (Fm.cs_plain _) (zE _ _ (by simp[bJ,plain,zzj]) (zE _ _ (bB.cs_plain _) (zE _ _ (bB.cs_plain _) (bB.cs_plain _)))))
def zu9 {g:Tr ABlk}{nx i esz:Nat}{a b:Pv}{T:List AV}{opn:Bool}(hb:nx≤i)(hg:g.get i=some (bx 30 (a.cs++(b.cs++T)) opn esz)):Fz g nx (.sl i 0 2 2 false) (.fz 23 false (vL [a,b])):=
 .slz i 0 2 2 false 30 _ _ opn esz 23 (a.cs++b.cs) (a.cs++b.cs) (vL [a,b]) hb hg (by simp) (fun j hj=>by
  rw[Nat.zero_add,fX,← List.append_assoc,List.getElem?_append_left hj]) (cE.same _ (zE _ _ a.cs_plain b.cs_plain)) ⟨a.cs,b.cs,rfl,rfl,a.cs_len,.inl rfl,b.cs,[],by simp,rfl,b.cs_len,.inl rfl,rfl⟩ rfl
def zS2 (a:Pv):a.cs[0]?=some (.bs a.id)∧a.cs[1]?=some (.int .i64 a.rank)∧a.cs[2]?=some (.int .i64 a.kind)∧a.cs[3]?=some (.bs a.name)∧a.cs[4]?=some (.int .i64 a.value)∧a.cs[10]?=some (.fz 1 false (bp a.except)):=by
 rcases a with⟨id,rank,kind,name,value,⟨w1,w2,w3,w4,w5⟩,ex,⟨b1,b2,b3,b4⟩,⟨e1,e2,e3,e4⟩,⟨g1,g2,g3,g4⟩⟩
 exact⟨rfl,rfl,rfl,rfl,rfl,rfl⟩
def Ln {v u:AV}(h:Wk v u)(m:List AV):∀l:List AV,fS (l++v::m) (l++u::m)
 |[]=>.cons _ _ _ _ h (fS.refl m)
 |x::l=>.cons _ _ _ _ (.same x) (Ln h m l)
def zPl:cx.ft.get 27=some Tryz.f27:=aO
def ft8:cx.ft.get 8=some Tryz.f8:=aO
def DH:bB:=.mk 0 .empty 0 []
def kC:ByteArray:=⟨#[97,103,101]⟩
def wT (c n:Int):Fm:=.mk 3 kC c n []
def mv (w:Fm) (v:Int):Pv:=⟨⟨#[112]⟩,2,2,⟨#[113]⟩,v,w,[],DH,DH,DH⟩
def Lw (c n:Int):aM 27 [.int .i64 c,.int .i64 n] (.agg (mv (wT c n) 0).cs):=by
 refine aB.mkW fun h nx R hR=>aP zPl (sz:=9) (rs:=[.cell 4 30]) ?_;simp-implicitDefEqProofs[go_sem,aI];refine hR _ _ _ _ ?_ (Fz.same _ (by simp[plain,bJ])) (.agg _ _ ?_)
 ·simp(disch:=omega)only[aK,az.refl]
 ·simp only[Pv.cs,mv,wT,Fm.cs,bB.cs,DH,bU,mR,bp,List.map_nil,List.cons_append,List.nil_append]
  repeat' first
   |exact .nil
   |exact .cons _ _ _ _ (.sl0 _ _) ?_
   |refine .cons _ _ _ _ (.sl0 _ _) ?_
   |refine .cons _ _ _ _ (.same _) ?_
   |rfl
def d0:List Fc:=[⟨kC,2,0,150⟩]
def kS:ByteArray:=⟨#[112,111,111,114]⟩
def D7:Fm:=.mk 4 kS 0 0 []
def lT (v op:Int)(nm:ByteArray) (c n:Int)(k:AV):List AV:=[.bs ⟨#[112]⟩,.int .i64 2,.int .i64 2,.bs ⟨#[113]⟩,.int .i64 v,.int .i64 op,.bs nm,.int .i64 c,.int .i64 n,k,.fz 1 false [],.int .i64 0,.bs .empty,.int .i64 0,.fz 4 false [],.int .i64 0,.bs .empty,.int .i64 0,.fz 4 false [],.int .i64 0,.bs .empty,.int .i64 0,.fz 4 false []]
def yj0 (v op:Int)(nm:ByteArray) (c n:Int)(l:List Fm):(mv (.mk op nm c n l) v).cs=lT v op nm c n (.fz 5 false (bU l)):=rfl
def dJ.get {g:Tr ABlk}{F:Nat→Prop}:∀{l m:List AV},dJ g F l m→∀(k:Nat)(v:AV),l[k]?=some v→∃u,m[k]?=some u∧Fy g F v u
 |_,_,.nil,k,v,h=>by simp at h
 |_,_,.cons a b _ _ h1 h2,0,v,h=>by simp at h;subst h;exact⟨b,rfl,h1⟩
 |_,_,.cons a b _ _ h1 h2,k+1,v,h=>by simpa using dJ.get h2 k v (by simpa using h)
def dJ.len {g:Tr ABlk}{F:Nat→Prop}:∀{l m:List AV},dJ g F l m→m.length=l.length
 |_,_,.nil=>rfl
 |_,_,.cons _ _ _ _ _ h=>by simp[dJ.len h]
def Td {g:Tr ABlk}{F:Nat→Prop}{t:TypeId}{l m:List AV}{opn:Bool}{esz:Nat}(h:dJ g F l m):EH g F (bx t l opn esz) (bx t m opn esz):=by
 unfold bx;rw[h.len];refine .cells _ _ _ _ _ _ fun k hk v hv=>?_;rw[fX]at hv ⊢;exact h.get k v hv
def RX {g:Tr ABlk}{F:Nat→Prop}(v op:Int)(nm:ByteArray) (c n:Int){k k':AV}(h:Fy g F k k'):dJ g F (lT v op nm c n k) (lT v op nm c n k'):=
 dJ.appd (.cons _ _ _ _ h (dJ.same _)) [.bs ⟨#[112]⟩,.int .i64 2,.int .i64 2,.bs ⟨#[113]⟩,.int .i64 v,.int .i64 op,.bs nm,.int .i64 c,.int .i64 n]
def zJ5 {g:Tr ABlk}{F:Nat→Prop}{b:Nat}{c:List AV}(hF:F b)(hc:c.length=5)(hg:g.get b=some (bx 24 c false 0)):Fy g F (.sl b 0 1 1 false) (.fz 5 false [.agg c]):=
 .slz b 0 1 1 false 24 _ _ false 0 5 c c [.agg c] hF hg (by simp) (fun j hj=>by rw[Nat.zero_add,fX]) (dJ.same _) ⟨c,[],by simp,rfl,hc,.inl rfl,rfl⟩ rfl
def zHx {g:Tr ABlk}{F:Nat→Prop}{b:Nat}{c e:List AV}(hF:F b)(hc:c.length=5)(he:e.length=5)(hg:g.get b=some (bx 24 (c++e) false 0)):Fy g F (.sl b 0 2 2 false) (.fz 5 false [.agg c,.agg e]):=
 .slz b 0 2 2 false 24 _ _ false 0 5 (c++e) (c++e) [.agg c,.agg e] hF hg (by simp) (fun j hj=>by rw[Nat.zero_add,fX]) (dJ.same _) ⟨c,e,rfl,rfl,hc,.inl rfl,e,[],by simp,rfl,he,.inl rfl,rfl⟩ rfl
def p1:Pv:=mv (wT 6 18) 0
def p2:Pv:=mv (wT 5 18) 0
def p4:Pv:=mv (.mk 5 .empty 0 0 [wT 3 18]) 0
def p6:Pv:=mv D7 0
def p7:Pv:=mv (.mk 7 .empty 0 0 [D7,wT 3 5]) 0
def p8:Pv:=mv (wT 6 18) 5
def Yo:∀f∈d0,f.name.size≤1000000000:=by
 intro f hf;simp[d0]at hf;subst hf
 decide
def LZ (f f':Fm) (v v':Int)(h1:f.size≤1000000)(h2:f'.size≤1000000):aM 12 [.agg (mv f v).cs,.agg (mv f' v').cs,.agg [.fz 4 false (aN d0)]] (jx (mv f v) (mv f' v') d0).v:=
 QA false _ _ d0 h1 h2 (by decide) Yo (by simp[mv]) (by simp[mv]) (by simp[mv,DH,bB.size,iv]) (by simp[mv,DH,bB.size,iv])
def BM:List AV:=[.agg [.int .i64 4,.bs kS,.int .i64 0,.int .i64 0,.sl0],.agg [.int .i64 3,.bs kC,.int .i64 3,.int .i64 5,.fz 5 false []]]
def HK:List AV:=[.int .i64 2,.bs ⟨#[112,49]⟩,.bs .empty,.bs .empty,.bs ⟨#[97,99,116,32,112,49,58,32,97,110,115,119,101,114,32,116,97,120,32,105,115,32,53,32,105,102,32,97,103,101,32,62,32,49,55,46]⟩,.bs ⟨#[119,104,101,114,101,32,123,32,97,103,101,32,49,56,32,108,101,97,115,116,32,125,32,113,117,101,115,116,105,111,110,32,116,97,120,32,103,105,118,101,115,32,53,32,91,115,116,97,116,117,116,101,32,112,49,93]⟩,.bool false]
def wk6:Wk (.agg (lT 0 4 kS 0 0 .sl0)) (.agg p6.cs):=
 .agg _ _ (Ln (.sl0 5 false) _ [.bs ⟨#[112]⟩,.int .i64 2,.int .i64 2,.bs ⟨#[113]⟩,.int .i64 0,.int .i64 4,.bs kS,.int .i64 0,.int .i64 0])
def wk7:Wk (.agg (lT 0 7 .empty 0 0 (.fz 5 false BM))) (.agg p7.cs):=
 .agg _ _ (Ln (.fz 5 _ _ false (.cons _ _ _ _ (.agg _ _ (Ln (.sl0 5 false) _ [.int .i64 4,.bs kS,.int .i64 0,.int .i64 0])) (fS.refl _))) _ [.bs ⟨#[112]⟩,.int .i64 2,.int .i64 2,.bs ⟨#[113]⟩,.int .i64 0,.int .i64 7,.bs .empty,.int .i64 0,.int .i64 0])
def Pz (nx:Nat):(¬nx=nx+1)∧(¬nx=nx+1+1)∧(¬nx=nx+1+1+1)∧(¬nx=nx+1+1+1+1)∧(¬nx=nx+1+1+1+1+1)∧(¬nx=nx+1+1+1+1+1+1)∧(¬nx=nx+1+1+1+1+1+1+1)∧(¬nx=nx+1+1+1+1+1+1+1+1)∧(¬nx=nx+1+1+1+1+1+1+1+1+1)∧(¬nx+1=nx)∧(¬nx+1+1=nx)∧(¬nx+1+1+1=nx)∧(¬nx+1+1+1+1=nx)∧(¬nx+1+1+1+1+1=nx)∧(¬nx+1+1+1+1+1+1=nx)∧(¬nx+1+1+1+1+1+1+1=nx)∧(¬nx+1+1+1+1+1+1+1+1=nx)∧(¬nx+1+1+1+1+1+1+1+1+1=nx):=by
 repeat' apply And.intro
 all_goals omega
def zGl (e1:jx p1 p4 d0=⟨0,[],0⟩)(e2:jx p1 p2 d0=⟨3,[18],0⟩)(e3:jx p7 p6 d0=⟨3,[0,0],0⟩)(e4:jx p1 p8 d0=⟨1,[],0⟩)(pa:Pv)(h4:pa.value=5)(h7:pa.cs[7]?=some (.int .i64 5))(MZ:aM 16 [.agg HK,.agg [.fz 4 false (aN d0)]] (.tup [.agg pa.cs,.agg [.int .i64 0,.fz 1 false []],.int .i64 0])):aM 8 [] (.bool true):=by
 refine aB.mk fun h nx R hR=>bf.ofLe fun hG=>aP ft8 (sz:=146) (rs:=[.tmp 0]) ?_;have hf:∀g ny,az nx h g→R (.bool true) g ny:=fun g ny he=>hR _ _ _ he (Fz.eq rfl rfl);clear hR;have V:=Pz nx;have t1:=Lw 6 18;have t2:=Lw 5 18;have t3:=Lw 3 18;have t5:=Lw 3 5;simp only[wT,yj0,bU,lT,kC]at t1 t2 t3 t5;simp-implicitDefEqProofs[go_sem,aI];refine aB.use t1 ?_;simp-implicitDefEqProofs[go_sem,aA];refine aB.use t2 ?_;simp-implicitDefEqProofs[go_sem,aA];refine aB.use t3 ?_;simp-implicitDefEqProofs[go_sem,aA,aI,V];refine aB.use t5 ?_;simp-implicitDefEqProofs[go_sem,aA];refine aB.use t5 ?_;simp-implicitDefEqProofs[go_sem,aA,aI];generalize hM:Tr.put _ (nx+1+1+1+1+1+1+1+1+1) _=M;have q1:M.get (nx+1)=some (bx 35 [.sl nx 0 1 1 false] false 0):=by rw[← hM];simp-implicitDefEqProofs[go_sem]
 have q0:M.get (nx)=some (bx 65 [.bs kC,.int .i64 2,.int .i64 0,.int .i64 150] false 0):=by rw[← hM];simp-implicitDefEqProofs[go_sem,kC,V]
 have q2:M.get (nx+1+1)=some (bx 30 (lT 0 3 kC 6 18 (.fz 5 false [])) false 0):=by rw[← hM];simp-implicitDefEqProofs[go_sem,lT,kC]
 have q3:M.get (nx+1+1+1)=some (bx 30 (lT 0 3 kC 5 18 (.fz 5 false [])) false 0):=by rw[← hM];simp-implicitDefEqProofs[go_sem,lT,kC]
 have q4:M.get (nx+1+1+1+1)=some (bx 30 (lT 0 5 .empty 0 0 (.sl (nx+1+1+1+1+1) 0 1 1 false)) false 0):=by rw[← hM];simp-implicitDefEqProofs[go_sem,lT]
 have q5:M.get (nx+1+1+1+1+1)=some (bx 24 [.int .i64 3,.bs kC,.int .i64 3,.int .i64 18,.fz 5 false []] false 0):=by rw[← hM];simp-implicitDefEqProofs[go_sem,kC]
 have q6:M.get (nx+1+1+1+1+1+1)=some (bx 30 (lT 0 4 kS 0 0 .sl0) false 0):=by rw[← hM];simp-implicitDefEqProofs[go_sem,lT,kS]
 have q7:M.get (nx+1+1+1+1+1+1+1)=some (bx 30 (lT 0 7 .empty 0 0 (.sl (nx+1+1+1+1+1+1+1+1) 0 2 2 false)) false 0):=by rw[← hM];simp-implicitDefEqProofs[go_sem,lT]
 have q8:M.get (nx+1+1+1+1+1+1+1+1)=some (bx 24 [.int .i64 4,.bs kS,.int .i64 0,.int .i64 0,.sl0,.int .i64 3,.bs kC,.int .i64 3,.int .i64 5,.fz 5 false []] false 0):=by rw[← hM];simp-implicitDefEqProofs[go_sem,kC,kS]
 have q9:M.get (nx+1+1+1+1+1+1+1+1+1)=some (bx 30 (lT 5 3 kC 6 18 (.fz 5 false [])) false 0):=by rw[← hM];simp-implicitDefEqProofs[go_sem,lT,kC]
 have hE:az nx h M:=by
  rw[← hM];simp(disch:=omega)only[aK,az.refl]
 clear hM;have y0:Fy M (fun a=>a∈[nx,(nx+1+1+1+1+1),(nx+1+1+1+1+1+1+1+1)]) (.sl nx 0 1 1 false) (.fz 4 false (aN d0)):=X1 (s:=d0) (by simp) q0;have y5:Fy M (fun a=>a∈[nx,(nx+1+1+1+1+1),(nx+1+1+1+1+1+1+1+1)]) (.sl (nx+1+1+1+1+1) 0 1 1 false) (.fz 5 false (bU [wT 3 18])):=zJ5 (by simp) rfl q5;have y8:Fy M (fun a=>a∈[nx,(nx+1+1+1+1+1),(nx+1+1+1+1+1+1+1+1)]) (.sl (nx+1+1+1+1+1+1+1+1) 0 2 2 false) (.fz 5 false BM):=zHx (c:=[.int .i64 4,.bs kS,.int .i64 0,.int .i64 0,.sl0]) (e:=[.int .i64 3,.bs kC,.int .i64 3,.int .i64 5,.fz 5 false []]) (by simp) rfl rfl q8;obtain⟨g,hg⟩:∃g,g=(((jA M [nx,(nx+1+1+1+1+1),(nx+1+1+1+1+1+1+1+1)]).put (nx+1) (some (bx 35 [.fz 4 false (aN d0)] false 0))).put (nx+1+1+1+1) (some (bx 30 (lT 0 5 .empty 0 0 (.fz 5 false (bU [wT 3 18]))) false 0))).put (nx+1+1+1+1+1+1+1) (some (bx 30 (lT 0 7 .empty 0 0 (.fz 5 false BM)) false 0)):=⟨_,rfl⟩
 have Uy:iG M (fun a=>a∈[nx,(nx+1+1+1+1+1),(nx+1+1+1+1+1+1+1+1)]) g:=by
  rw[hg];refine iG.put (iG.put (iG.put (iG.kill _) (by simp) q1 (Td (.cons _ _ _ _ y0 .nil))) (by simp[V]) q4 (Td (RX _ _ _ _ _ y5))) (by simp[V]) q7 (Td (RX _ _ _ _ _ y8))
 change di 12 [.agg (lT 0 3 kC 6 18 (.fz 5 false [])),.agg (lT 0 5 .empty 0 0 (.sl (nx+1+1+1+1+1) 0 1 1 false)),.agg [.sl nx 0 1 1 false]] M _ _
 refine Hu (fun a=>a∈[nx,(nx+1+1+1+1+1),(nx+1+1+1+1+1+1+1+1)]) Uy (.cons _ _ _ _ (.same _) (.cons _ _ _ _ (.agg _ _ (RX _ _ _ _ _ y5)) (.cons _ _ _ _ (.agg _ _ (.cons _ _ _ _ y0 .nil)) .nil))) ?_;have s1:g.get (nx+1)=some (bx 35 [.fz 4 false (aN d0)] false 0):=by rw[hg];simp[Tr.get_put]
 have s2:g.get (nx+1+1)=some (bx 30 p1.cs false 0):=by rw[hg];simp[Tr.get_put,ze,q2,V];rfl
 have s3:g.get (nx+1+1+1)=some (bx 30 p2.cs false 0):=by rw[hg];simp[Tr.get_put,ze,q3,V];rfl
 have s4:g.get (nx+1+1+1+1)=some (bx 30 p4.cs false 0):=by rw[hg];simp[Tr.get_put];rfl
 have s6:g.get (nx+1+1+1+1+1+1)=some (bx 30 (lT 0 4 kS 0 0 .sl0) false 0):=by rw[hg];simp[Tr.get_put,ze,q6,V]
 have s7:g.get (nx+1+1+1+1+1+1+1)=some (bx 30 (lT 0 7 .empty 0 0 (.fz 5 false BM)) false 0):=by rw[hg];simp[Tr.get_put]
 have s9:g.get (nx+1+1+1+1+1+1+1+1+1)=some (bx 30 p8.cs false 0):=by rw[hg];simp[Tr.get_put,ze,q9,V];rfl
 have yl:az nx h g:=by
  intro k hk;have:=hE k hk;rw[hg];simp[Tr.get_put,ze,show ¬k=nx by omega,show ¬k=(nx+1) by omega,show ¬k=(nx+1+1+1+1) by omega,show ¬k=(nx+1+1+1+1+1) by omega,show ¬k=(nx+1+1+1+1+1+1+1) by omega,show ¬k=(nx+1+1+1+1+1+1+1+1) by omega];exact this
 clear hg Uy y0 y5 y8 q0 q1 q2 q3 q4 q5 q6 q7 q8 q9 hE t1 t2 t3 t5;have M7:=LZ (wT 6 18) (.mk 5 .empty 0 0 [wT 3 18]) 0 0 (by simp[wT,Fm.size,bd]) (by simp[wT,Fm.size,bd]);have qD:=LZ (wT 6 18) (wT 5 18) 0 0 (by simp[wT,Fm.size,bd]) (by simp[wT,Fm.size,bd]);have M8:=LZ (.mk 7 .empty 0 0 [D7,wT 3 5]) D7 0 0 (by simp[wT,D7,Fm.size,bd]) (by simp[D7,Fm.size,bd]);have M9:=LZ (wT 6 18) (wT 6 18) 0 5 (by simp[wT,Fm.size,bd]) (by simp[wT,Fm.size,bd])
 change aB _ _ _ _ (jx p1 p4 d0).v at M7
 change aB _ _ _ _ (jx p1 p2 d0).v at qD
 change aB _ _ _ _ (jx p7 p6 d0).v at M8
 change aB _ _ _ _ (jx p1 p8 d0).v at M9
 rw[e1]at M7;rw[e2]at qD;rw[e3]at M8;rw[e4]at M9;obtain⟨n10,hn⟩:∃n10,n10=nx+1+1+1+1+1+1+1+1+1+1:=⟨_,rfl⟩;rw[← hn];have PL:¬nx=n10:=by omega
 have VY:¬nx=n10+1:=by omega
 have w02:¬nx=n10+1+1:=by omega
 have w03:¬nx=n10+1+1+1:=by omega
 have w04:¬nx=n10+1+1+1+1:=by omega
 have w05:¬nx=n10+1+1+1+1+1:=by omega
 have w06:¬nx=n10+1+1+1+1+1+1:=by omega
 have JK:¬nx+1=n10:=by omega
 have Ha:¬nx+1=n10+1:=by omega
 have VZ:¬nx+1=n10+1+1:=by omega
 have w13:¬nx+1=n10+1+1+1:=by omega
 have w14:¬nx+1=n10+1+1+1+1:=by omega
 have w15:¬nx+1=n10+1+1+1+1+1:=by omega
 have w16:¬nx+1=n10+1+1+1+1+1+1:=by omega
 have V3:¬nx+1+1=n10:=by omega
 have V4:¬nx+1+1=n10+1:=by omega
 have w22:¬nx+1+1=n10+1+1:=by omega
 have w23:¬nx+1+1=n10+1+1+1:=by omega
 have w24:¬nx+1+1=n10+1+1+1+1:=by omega
 have w25:¬nx+1+1=n10+1+1+1+1+1:=by omega
 have w26:¬nx+1+1=n10+1+1+1+1+1+1:=by omega
 have w30:¬nx+1+1+1=n10:=by omega
 have w31:¬nx+1+1+1=n10+1:=by omega
 have w32:¬nx+1+1+1=n10+1+1:=by omega
 have w33:¬nx+1+1+1=n10+1+1+1:=by omega
 have w34:¬nx+1+1+1=n10+1+1+1+1:=by omega
 have w35:¬nx+1+1+1=n10+1+1+1+1+1:=by omega
 have w36:¬nx+1+1+1=n10+1+1+1+1+1+1:=by omega
 have w40:¬nx+1+1+1+1=n10:=by omega
 have w41:¬nx+1+1+1+1=n10+1:=by omega
 have w42:¬nx+1+1+1+1=n10+1+1:=by omega
 have w43:¬nx+1+1+1+1=n10+1+1+1:=by omega
 have w44:¬nx+1+1+1+1=n10+1+1+1+1:=by omega
 have w45:¬nx+1+1+1+1=n10+1+1+1+1+1:=by omega
 have w46:¬nx+1+1+1+1=n10+1+1+1+1+1+1:=by omega
 have w50:¬nx+1+1+1+1+1=n10:=by omega
 have w51:¬nx+1+1+1+1+1=n10+1:=by omega
 have w52:¬nx+1+1+1+1+1=n10+1+1:=by omega
 have w53:¬nx+1+1+1+1+1=n10+1+1+1:=by omega
 have w54:¬nx+1+1+1+1+1=n10+1+1+1+1:=by omega
 have w55:¬nx+1+1+1+1+1=n10+1+1+1+1+1:=by omega
 have w56:¬nx+1+1+1+1+1=n10+1+1+1+1+1+1:=by omega
 have w60:¬nx+1+1+1+1+1+1=n10:=by omega
 have w61:¬nx+1+1+1+1+1+1=n10+1:=by omega
 have w62:¬nx+1+1+1+1+1+1=n10+1+1:=by omega
 have w63:¬nx+1+1+1+1+1+1=n10+1+1+1:=by omega
 have w64:¬nx+1+1+1+1+1+1=n10+1+1+1+1:=by omega
 have w65:¬nx+1+1+1+1+1+1=n10+1+1+1+1+1:=by omega
 have w66:¬nx+1+1+1+1+1+1=n10+1+1+1+1+1+1:=by omega
 have V5:¬nx+1+1+1+1+1+1+1=n10:=by omega
 have w71:¬nx+1+1+1+1+1+1+1=n10+1:=by omega
 have w72:¬nx+1+1+1+1+1+1+1=n10+1+1:=by omega
 have w73:¬nx+1+1+1+1+1+1+1=n10+1+1+1:=by omega
 have w74:¬nx+1+1+1+1+1+1+1=n10+1+1+1+1:=by omega
 have w75:¬nx+1+1+1+1+1+1+1=n10+1+1+1+1+1:=by omega
 have V7:¬nx+1+1+1+1+1+1+1=n10+1+1+1+1+1+1:=by omega
 have w80:¬nx+1+1+1+1+1+1+1+1=n10:=by omega
 have w81:¬nx+1+1+1+1+1+1+1+1=n10+1:=by omega
 have w82:¬nx+1+1+1+1+1+1+1+1=n10+1+1:=by omega
 have w83:¬nx+1+1+1+1+1+1+1+1=n10+1+1+1:=by omega
 have w84:¬nx+1+1+1+1+1+1+1+1=n10+1+1+1+1:=by omega
 have w85:¬nx+1+1+1+1+1+1+1+1=n10+1+1+1+1+1:=by omega
 have w86:¬nx+1+1+1+1+1+1+1+1=n10+1+1+1+1+1+1:=by omega
 have w90:¬nx+1+1+1+1+1+1+1+1+1=n10:=by omega
 have w91:¬nx+1+1+1+1+1+1+1+1+1=n10+1:=by omega
 have w92:¬nx+1+1+1+1+1+1+1+1+1=n10+1+1:=by omega
 have w93:¬nx+1+1+1+1+1+1+1+1+1=n10+1+1+1:=by omega
 have w94:¬nx+1+1+1+1+1+1+1+1+1=n10+1+1+1+1:=by omega
 have w95:¬nx+1+1+1+1+1+1+1+1+1=n10+1+1+1+1+1:=by omega
 have w96:¬nx+1+1+1+1+1+1+1+1+1=n10+1+1+1+1+1+1:=by omega
 have x01:¬n10=n10+1:=by omega
 have x02:¬n10=n10+1+1:=by omega
 have x03:¬n10=n10+1+1+1:=by omega
 have x04:¬n10=n10+1+1+1+1:=by omega
 have x05:¬n10=n10+1+1+1+1+1:=by omega
 have x06:¬n10=n10+1+1+1+1+1+1:=by omega
 have x10:¬n10+1=n10:=by omega
 have x12:¬n10+1=n10+1+1:=by omega
 have x13:¬n10+1=n10+1+1+1:=by omega
 have x14:¬n10+1=n10+1+1+1+1:=by omega
 have x15:¬n10+1=n10+1+1+1+1+1:=by omega
 have x16:¬n10+1=n10+1+1+1+1+1+1:=by omega
 have x20:¬n10+1+1=n10:=by omega
 have x21:¬n10+1+1=n10+1:=by omega
 have x23:¬n10+1+1=n10+1+1+1:=by omega
 have x24:¬n10+1+1=n10+1+1+1+1:=by omega
 have x25:¬n10+1+1=n10+1+1+1+1+1:=by omega
 have x26:¬n10+1+1=n10+1+1+1+1+1+1:=by omega
 have x30:¬n10+1+1+1=n10:=by omega
 have x31:¬n10+1+1+1=n10+1:=by omega
 have x32:¬n10+1+1+1=n10+1+1:=by omega
 have x34:¬n10+1+1+1=n10+1+1+1+1:=by omega
 have x35:¬n10+1+1+1=n10+1+1+1+1+1:=by omega
 have x36:¬n10+1+1+1=n10+1+1+1+1+1+1:=by omega
 have x40:¬n10+1+1+1+1=n10:=by omega
 have x41:¬n10+1+1+1+1=n10+1:=by omega
 have x42:¬n10+1+1+1+1=n10+1+1:=by omega
 have x43:¬n10+1+1+1+1=n10+1+1+1:=by omega
 have x45:¬n10+1+1+1+1=n10+1+1+1+1+1:=by omega
 have x46:¬n10+1+1+1+1=n10+1+1+1+1+1+1:=by omega
 have x50:¬n10+1+1+1+1+1=n10:=by omega
 have x51:¬n10+1+1+1+1+1=n10+1:=by omega
 have x52:¬n10+1+1+1+1+1=n10+1+1:=by omega
 have x53:¬n10+1+1+1+1+1=n10+1+1+1:=by omega
 have x54:¬n10+1+1+1+1+1=n10+1+1+1+1:=by omega
 have x56:¬n10+1+1+1+1+1=n10+1+1+1+1+1+1:=by omega
 have x60:¬n10+1+1+1+1+1+1=n10:=by omega
 have x61:¬n10+1+1+1+1+1+1=n10+1:=by omega
 have x62:¬n10+1+1+1+1+1+1=n10+1+1:=by omega
 have x63:¬n10+1+1+1+1+1+1=n10+1+1+1:=by omega
 have x64:¬n10+1+1+1+1+1+1=n10+1+1+1+1:=by omega
 have x65:¬n10+1+1+1+1+1+1=n10+1+1+1+1+1:=by omega
 have a1:=p1.cs_len;have a2:=p2.cs_len;have a4:=p4.cs_len;have a8:=p8.cs_len;have a6:(lT 0 4 kS 0 0 .sl0).length=23:=rfl;have a7:(lT 0 7 .empty 0 0 (.fz 5 false BM)).length=23:=rfl;have b1:p1.cs.take 23=p1.cs:=ar (by omega);have b2:p2.cs.take 23=p2.cs:=ar (by omega);have b4:p4.cs.take 23=p4.cs:=ar (by omega);have b8:p8.cs.take 23=p8.cs:=ar (by omega);have b6:(lT 0 4 kS 0 0 .sl0).take 23=lT 0 4 kS 0 0 .sl0:=ar (by omega);have b7:(lT 0 7 .empty 0 0 (.fz 5 false BM)).take 23=lT 0 7 .empty 0 0 (.fz 5 false BM):=ar (by omega);refine aB.use M7 ?_;simp-implicitDefEqProofs[go_sem,aA,uE.v,aI,s1,s2,s3,a1,a2,b1,b2,JK,V3,w30];refine aB.use qD ?_;simp-implicitDefEqProofs[go_sem,aA,uE.v,aI,s1,s6,s7,a6,a7,b6,b7,PL,JK,w50,w60,V5];refine bf.wk (.cons _ _ _ _ wk7 (.cons _ _ _ _ wk6 (fS.refl _))) ?_;refine aB.use M8 ?_;simp-implicitDefEqProofs[go_sem,aA,uE.v,aI,s1,s2,s9,a1,a8,b1,b8,PL,VY,JK,V3,V5,w80,w90]
 refine aB.use M9 ?_;simp-implicitDefEqProofs[go_sem,aA,uE.v,aI,x02,x03];have UP:=Z7 false false [18] [18] (by decide);have Fs:=Z7 false false [0,0] [0,0] (by decide);rw[decide_eq_true rfl]at UP Fs;refine aB.useB uf UP rfl (.cons _ _ _ _ (Fz.same _ rfl) (.cons _ _ _ _ (T7 (s:=[18]) (b:=n10+1+1+1+1) (opn:=false) (esz:=0) (by omega) (by rw[Tr.get_put,if_pos rfl];rfl)) .nil)) ?_;simp-implicitDefEqProofs[go_sem,aA,aI];refine aB.useB uf Fs rfl (.cons _ _ _ _ (Fz.same _ rfl) (.cons _ _ _ _ (T7 (s:=[0,0]) (b:=n10+1+1+1+1+1) (opn:=false) (esz:=0) (by omega) (by rw[Tr.get_put,if_pos rfl];rfl)) .nil)) ?_;simp-implicitDefEqProofs[go_sem,aA,aI,s1,PL,VY,w02,w03,w04,JK]
 change di 16 [.agg HK,.agg [.fz 4 false (aN d0)]] _ _ _
 refine aB.use MZ ?_;have a9:=pa.cs_len;have ao9:=yV pa;have b9:pa.cs.take 23=pa.cs:=ar (by omega);obtain⟨_,_,_,_,f4,_⟩:=zS2 pa;rw[h4]at f4;have d4:pa.cs[4]'(by omega)=.int .i64 5:=by rw[List.getElem_eq_iff];exact f4
 have d7:pa.cs[7]'(by omega)=.int .i64 5:=by rw[List.getElem_eq_iff];exact h7
 simp-implicitDefEqProofs[go_sem,aA,a9,ao9,d4,d7,aI];refine hf _ _ ?_;simp(disch:=omega)only[aK,yl]
end
section
open Go.Proofs Go.RowKit
def zyr:pC kC:=by
 refine⟨?_,by intro h;exact absurd (congrArg ByteArray.size h) (by decide),by decide⟩;intro i h;have h3:i<3:=h
 rcases (by omega:i=0∨i=1∨i=2) with rfl |rfl |rfl
 ·show iV 0 97;simp[iV]
 ·show iV 1 103;simp[iV]
 ·show iV 2 101;simp[iV]
def pz:dH d0=true:=by
 refine RG ⟨⟨?_,?_⟩,by decide⟩
 ·intro f hf;simp[d0]at hf;subst hf;exact⟨.inr ⟨.inl rfl,by decide,by decide,by decide⟩,Lr zyr⟩
 ·simp[d0]
def zQy:jx p1 p8 d0=⟨1,[],0⟩:=by
 have mK:kJ d0 p1.when_=0:=by kernel_rfl
 have hc8:kJ d0 p8.when_=0:=by kernel_rfl
 have hm:oG d0 (eM p1.when_++eM p8.when_) [] d0=some d0:=by kernel_rfl
 unfold jx;rw[if_neg (by rw[pz];simp),if_neg (by rw[mK];simp),if_neg (by rw[hc8];simp),hm];show Bz p1 p8 d0=_;unfold Bz;rw[if_neg (by decide),if_pos];intro h;exact absurd h.2.2.2.2.1 (by decide)
def BB (x:Int):List Int→List Int
 |[]=>[x]
 |y::l=>if x≤y then x::y::l else y::BB x l
def Ea:List Int→List Int
 |[]=>[]
 |x::l=>BB x (Ea l)
def Tl (x:Int):∀l,(BB x l).Perm (x::l)
 |[]=>.refl _
 |y::l=>by
  rw[BB];split
  ·exact .refl _
  ·exact((Tl x l).cons y).trans (.swap x y l)
def Zs:∀l,(Ea l).Perm l
 |[]=>.refl _
 |x::l=>(Tl x _).trans ((Zs l).cons x)
def XG (x:Int):∀l:List Int,l.Pairwise (·≤·)→(BB x l).Pairwise (·≤·)
 |[],_=>by simp[BB]
 |y::l,h=>by
  rw[BB];have h2:=List.pairwise_cons.1 h;split
  ·rename_i hx;refine List.pairwise_cons.2 ⟨fun z hz=>?_,h⟩
   rcases List.mem_cons.1 hz with rfl |hz
   ·exact hx
   ·have:=h2.1 z hz;omega
  ·rename_i hx;refine List.pairwise_cons.2 ⟨fun z hz=>?_,XG x l h2.2⟩
   rcases List.mem_cons.1 ((Tl x l).mem_iff.1 hz) with rfl |hz
   ·omega
   ·exact h2.1 z hz
def zyk:∀l:List Int,(Ea l).Pairwise (·≤·)
 |[]=>.nil
 |x::l=>XG x _ (zyk l)
def zzu (l:List Int):dG l=Ea l:=by
 have hs:(dG l).Pairwise (·≤·):=by
  have:=List.pairwise_mergeSort (le:=fun x y:Int=>decide (x≤y)) (fun a b c h1 h2=>by simp at *;omega) (fun a b=>by simp;omega) l;exact this.imp fun h=>by simpa using h
 exact((List.mergeSort_perm l _).trans (Zs l).symm).eq_of_pairwise (fun a b _ _ h1 h2=>by omega) hs (zyk l)
def Ld (f:Fm)(x:Fc):List Int:=fZ ((Ea (gW x.name [x.lo] f)).filter fun y=>!iy x y)
def zU9 (f:Fm)(x:Fc):fQ f x=Ld f x:=by unfold fQ Ld;rw[zzu]
def Ti (L:List Nd)(n:Nd):List Nd:=if ((L.map bV).any fun k=>decide (k=bV n))=true then L else L++[n]
def zMz (L:List Nd)(n:Nd):jB L n=Ti L n:=by
 unfold jB Ti
 by_cases h:bV n∈L.map bV
 ·rw[if_pos h,if_pos (List.any_eq_true.2 ⟨_,h,decide_eq_true rfl⟩)]
 ·rw[if_neg h,if_neg fun q=>by
   obtain⟨x,hx,e⟩:=List.any_eq_true.1 q;exact h (of_decide_eq_true e ▸ hx)]
def xL (n:Nd)(S:GS):Int×GS:=((mW S.L n:Int),{ S with L:=Ti S.L n })
def LG (n:Nd)(S:GS):dp n S=xL n S:=by unfold dp xL;rw[zMz]
def Ho (i:Nat)(st ks:List Int)(S:GS):Int×GS:=
 let n:Nd:=⟨(i:Int),(bN (jr ks) [] [jr ks] st ks).2.1,(bN (jr ks) [] [jr ks] st ks).2.2,false⟩
 if n.kids.length=1 then (jr ks,S) else xL n S
def ZM (i:Nat)(st ks:List Int)(S:GS):eT i st ks S=Ho i st ks S:=by
 unfold eT Ho;simp only[LG]
def B4 (d:List Fc):Nat→Fm→GS→Int×GS
 |0,f,S=>if f.op=1∨f.op=2 then xL (cz (decide (f.op=1))) S else xL (cz false) { S with full:=kI S }
 |k+1,f,S=>if f.op=1∨f.op=2 then xL (cz (decide (f.op=1))) S else
   if kI S then xL (cz false) { S with full:=true } else
   match k9 (sJ (d.length-(k+1)) f) S.D with
   |some v=>(v,{ S with full:=false })
   |none=>
    let x:=d.getD (d.length-(k+1)) ⟨.empty,0,0,0⟩
    let r:=ez (fun v S=>B4 d k (bY x.name v f) S) (Ld f x) { S with full:=false }
    let o:=Ho (d.length-(k+1)) (Ld f x) r.1 r.2
    (o.1,{ o.2 with D:=mE (sJ (d.length-(k+1)) f) o.1 o.2.D })
def SA (d:List Fc):∀(k:Nat)(f:Fm)(S:GS),cr d k f S=B4 d k f S
 |0,f,S=>by rw[cr,B4];simp only[LG]
 |k+1,f,S=>by
  have ih:cr d k=B4 d k:=by funext f S;exact SA d k f S
  rw[cr,B4,ih];simp only[zU9,LG,ZM];rfl
def gI (f:Fm):Int×GS:=B4 d0 1 (bY .empty 0 f) ⟨[],[],false⟩
def dI (f:Fm):List Nd:=cV (gI f).2.L (gI f).1
def X5 (f:Fm):jP d0 f=gI f:=by
 unfold jP gI;exact SA d0 1 _ _
def Ko {f:Fm}(h1:uG d0 f=0)(h2:(jz [] f).length≤24)(h3:(gI f).2.full=false)(h4:(br (gI f).2.L (gI f).1).length≤20000):eL d0 f=0∧cH d0 f=dI f:=by
 have he:eL d0 f=0:=by
  unfold eL;rw[X5,if_neg (by rw[pz,h1];simp),if_neg (by omega),if_neg (by rw[h3];simp;omega)]
 refine⟨he,?_⟩;unfold cH;rw[if_pos he,X5];rfl
def Sh:eL d0 (bL p1.when_)=0∧cH d0 (bL p1.when_)=dI (wT 6 18):=
 Ko (f:=wT 6 18) (by kernel_rfl) (by simp[wT,jz,jh,jk]) (by kernel_rfl) (by rw[show (br (gI (wT 6 18)).2.L (gI (wT 6 18)).1).length=3 by kernel_rfl];omega)
def zUa:eL d0 (bL p2.when_)=0∧cH d0 (bL p2.when_)=dI (wT 5 18):=
 Ko (f:=wT 5 18) (by kernel_rfl) (by simp[wT,jz,jh,jk]) (by kernel_rfl) (by rw[show (br (gI (wT 5 18)).2.L (gI (wT 5 18)).1).length=3 by kernel_rfl];omega)
def f4:Fm:=.mk 5 .empty 0 0 [wT 3 18]
def zQ3:eL d0 (bL p4.when_)=0∧cH d0 (bL p4.when_)=dI f4:=
 Ko (f:=f4) (by kernel_rfl) (by simp[f4,wT,jz,jh,jk]) (by kernel_rfl) (by rw[show (br (gI f4).2.L (gI f4).1).length=3 by kernel_rfl];omega)
def Rj (p q:Nd)(d:List Fc) (i:Int) (lo:Int):List Int:=fZ (Ea (([lo]++(if bq p d=i then p.cuts else []))++(if bq q d=i then q.cuts else [])))
def zP9 (p q:Nd)(d:List Fc) (i lo:Int):ll p q d i lo=Rj p q d i lo:=by unfold ll Rj;rw[zzu]
def QF (n:Nd)(H:HS):Int×HS:=((xL n H.gs).1,{ H with L:=(xL n H.gs).2.L })
def zFp (n:Nd)(H:HS):vW n H=QF n H:=by unfold vW QF;rw[LG]
def Q2 (i:Nat)(st ks:List Int)(H:HS):Int×HS:=((Ho i st ks H.gs).1,{ H with L:=(Ho i st ks H.gs).2.L })
def zFy (i:Nat)(st ks:List Int)(H:HS):kK i st ks H=Q2 i st ks H:=by unfold kK Q2;rw[ZM]
def D5 (a b:List Nd)(d:List Fc):Nat→Nat→Nat→HS→Int×HS
 |0,_,_,H=>(0,H)
 |k+1,x,y,H=>match ld ((x:Int),(y:Int)) H.M with
  |some v=>(v,H)
  |none=>
   let p:=a.getD x (cz false)
   let q:=b.getD y (cz false)
   let i:=jC p q d
   if i=(d.length:Int)∨20000<H.L.length then QF (cz (p.leaf && q.leaf)) H
   else
    let st:=Rj p q d i (d.getD i.toNat ⟨.empty,0,0,0⟩).lo
    let r:=fR (fun v H=>D5 a b d k (eR p x i v).toNat (eR q y i v).toNat H) st H
    let o:=Q2 i.toNat st r.1 r.2
    (o.1,{ o.2 with M:=mX ((x:Int),(y:Int)) o.1 o.2.M })
def zEw (a b:List Nd)(d:List Fc):∀(k x y:Nat)(H:HS),fD a b d k x y H=D5 a b d k x y H
 |0,x,y,H=>by rw[fD,D5]
 |k+1,x,y,H=>by
  have ih:fD a b d k=D5 a b d k:=by funext x y H;exact zEw a b d k x y H
  rw[fD,D5,ih];simp only[zP9,zFp,zFy];rfl
def d2:List Fc:=[⟨kC,2,0,150⟩,⟨kS,1,0,1⟩]
def zOo:oG d0 (eM p7.when_++eM p6.when_) [] d0=some d2:=by
 have h7:eM p7.when_=[kS]:=by kernel_rfl
 have h6:eM p6.when_=[kS]:=by kernel_rfl
 have h:¬kC=kS:=fun e=>absurd (congrArg ByteArray.size e) (by decide);rw[h7,h6];simp[oG,d0,d2,bj,h]
def zKq:pC kS:=by
 refine⟨?_,by intro h;exact absurd (congrArg ByteArray.size h) (by decide),by decide⟩;intro i h;have h3:i<4:=h
 rcases (by omega:i=0∨i=1∨i=2∨i=3) with rfl |rfl |rfl |rfl
 ·show iV 0 112;simp[iV]
 ·show iV 1 111;simp[iV]
 ·show iV 2 111;simp[iV]
 ·show iV 3 114;simp[iV]
def xq:dH d2=true:=by
 refine RG ⟨⟨?_,?_⟩,by decide⟩
 ·intro f hf;simp[d2]at hf
  rcases hf with rfl |rfl
  ·exact⟨.inr ⟨.inl rfl,by decide,by decide,by decide⟩,Lr zyr⟩
  ·exact⟨.inl ⟨rfl,rfl,rfl⟩,Lr zKq⟩
 ·have h:¬kC=kS:=fun e=>absurd (congrArg ByteArray.size e) (by decide);simp[d2,h]
def qB (f:Fm):Int×GS:=B4 d2 2 (bY .empty 0 f) ⟨[],[],false⟩
def EU (f:Fm):List Nd:=cV (qB f).2.L (qB f).1
def Yl (f:Fm):jP d2 f=qB f:=by
 unfold jP qB;exact SA d2 2 _ _
def zFb {f:Fm}(h1:uG d2 f=0)(h2:(jz [] f).length≤24)(h3:(qB f).2.full=false)(h4:(br (qB f).2.L (qB f).1).length≤20000):eL d2 f=0∧cH d2 f=EU f:=by
 have he:eL d2 f=0:=by
  unfold eL;rw[Yl,if_neg (by rw[xq,h1];simp),if_neg (by omega),if_neg (by rw[h3];simp;omega)]
 refine⟨he,?_⟩;unfold cH;rw[if_pos he,Yl];rfl
def f6:Fm:=.mk 3 kS 1 1 []
def f7:Fm:=.mk 7 .empty 0 0 [f6,wT 3 5]
def zJk:eL d2 (bL p6.when_)=0∧cH d2 (bL p6.when_)=EU f6:=
 zFb (f:=f6) (by kernel_rfl) (by simp[f6,jz,jh,jk]) (by kernel_rfl) (by rw[show (br (qB f6).2.L (qB f6).1).length=3 by kernel_rfl];omega)
def zMt:eL d2 (bL p7.when_)=0∧cH d2 (bL p7.when_)=EU f7:=by
 have hn:(jz [] f7).length≤24:=by
  simp only[f7,f6,wT,jz,jh];simp[jk];split <;> simp
 have hl:(br (qB f7).2.L (qB f7).1).length≤20000:=by
  rw[show (br (qB f7).2.L (qB f7).1).length=4 by kernel_rfl];omega
 exact zFb (f:=f7) (by kernel_rfl) hn (by kernel_rfl) hl
instance cutsDec (hi:Int):∀(lo:Int) (l:List Int),Decidable (pB hi lo l)
 |_,[]=>.isTrue trivial
 |_,c::l=>@instDecidableAnd _ _ inferInstance (@instDecidableAnd _ _ inferInstance (cutsDec hi c l))
instance kidDec (g:List Nd) (n:Nd) (k:Nat) (x:Int):Decidable (rG g n k x):=
 inferInstanceAs (Decidable (x<0∨(g.length:Int)≤x∨(0<k∧n.kids.getD (k-1) 0=x)∨(∃h:x.toNat<g.length,¬(g[x.toNat]).kids=[]∧(g[x.toNat]).fact≤n.fact)))
instance properDec (g:List Nd) (n:Nd) (d:List Fc):Decidable (oz g n d):=
 inferInstanceAs (Decidable ((n.kids=[]∧n.fact=0∧n.cuts=[])∨(¬n.kids=[]∧n.leaf=false∧0≤n.fact∧¬n.cuts=[]∧n.kids.length=n.cuts.length+1∧∃h:n.fact.toNat<d.length,pB (d[n.fact.toNat]).hi (d[n.fact.toNat]).lo n.cuts∧∀k (hk:k<n.kids.length),¬rG g n k n.kids[k])))
def ckG (g:List Nd)(d:List Fc):Bool:=decide (0<g.length∧g.length≤20000∧(∀n∈g,oz g n d)∧(g.map bV).Nodup)
def sA {g:List Nd}{d:List Fc}(h:dH d=true)(h2:ckG g d=true)(h3:cV g 0=g):dU g d=true:=by
 have:=of_decide_eq_true h2;exact ED ⟨h,this.1,this.2.1,this.2.2.1,this.2.2.2,h3⟩
def nQ (b:Bool):Nd:=⟨0,[],[],b⟩
def g1:List Nd:=[⟨0,[18],[1,2],false⟩,nQ false,nQ true]
def g2:List Nd:=[⟨0,[19],[1,2],false⟩,nQ false,nQ true]
def g6:List Nd:=[⟨1,[1],[1,2],false⟩,nQ false,nQ true]
def g7:List Nd:=[⟨0,[5],[1,2],false⟩,nQ true,⟨1,[1],[3,1],false⟩,nQ false]
def SJ:dI (wT 6 18)=g1:=by kernel_rfl
def zL1:dI (wT 5 18)=g2:=by kernel_rfl
def zQi:dI f4=g1:=by kernel_rfl
def zIp:EU f6=g6:=by kernel_rfl
def zTa:EU f7=g7:=by kernel_rfl
def BC (a b:List Nd)(d:List Fc):Int×HS:=D5 a b d (d.length+1) 0 0 ⟨[],[]⟩
def zxb (a b:List Nd)(d:List Fc):gL a b d=BC a b d:=by unfold gL BC;exact zEw _ _ _ _ _ _ _
def HY {a b:List Nd}{d:List Fc}{r:List Nd}(ha:dU a d=true)(hb:dU b d=true)(h1:Nat.ble (BC a b d).2.L.length 20000=true)(h2:Nat.ble (br (BC a b d).2.L (BC a b d).1).length 20000=true)(h3:cV (BC a b d).2.L (BC a b d).1=r):mY a b d=0∧nY a b d=r:=by
 have he:mY a b d=0:=by
  unfold mY;rw[zxb,if_neg (by rw[ha,hb];simp),if_neg (by have:=ai h1;omega),if_neg (by have:=ai h2;omega)]
 refine⟨he,?_⟩;unfold nY;rw[if_pos he,zxb,h3]
def H4 {x y:List Nd}{d:List Fc}{r:List Nd}{c:List Int}{b:Bool}(h:mY x (y.map eQ) d=0∧nY x (y.map eQ) d=r)(hl:iX r d=(c,b)):gX x y d=⟨c,b,0⟩:=by
 unfold gX;rw[if_neg (by rw[h.1];simp),h.2,hl]
def Ib {g:List Nd}{d:List Fc}{c:List Int}{b:Bool}(hd:dH d=true)(hv:dU g d=true)(h:(match g[(ff g (d.length+1) 0 (d.map (·.lo))).1]? with
  |some m=>if m.leaf=true then ((ff g (d.length+1) 0 (d.map (·.lo))).2,true) else ([],false)
  |none=>([],false))=(c,b)):iX g d=(c,b):=by
 unfold iX;rw[if_pos hv];have e:gN d=d.map (·.lo):=by unfold gN;rw[hd];rfl
 rw[e];exact h
def T9:List Nd:=[⟨0,[18,19],[1,2,1],false⟩,nQ false,nQ true]
def Ua:List Nd:=[⟨0,[5],[1,3],false⟩,⟨1,[1],[2,3],false⟩,nQ true,nQ false]
def v1:dU g1 d0=true:=sA pz (by kernel_rfl) (by kernel_rfl)
def v2:dU g2 d0=true:=sA pz (by kernel_rfl) (by kernel_rfl)
def VX:dU (g1.map eQ) d0=true:=sA pz (by kernel_rfl) (by kernel_rfl)
def v2n:dU (g2.map eQ) d0=true:=sA pz (by kernel_rfl) (by kernel_rfl)
def v6:dU g6 d2=true:=sA xq (by kernel_rfl) (by kernel_rfl)
def v7:dU g7 d2=true:=sA xq (by kernel_rfl) (by kernel_rfl)
def v6n:dU (g6.map eQ) d2=true:=sA xq (by kernel_rfl) (by kernel_rfl)
def v7n:dU (g7.map eQ) d2=true:=sA xq (by kernel_rfl) (by kernel_rfl)
def VW:dU T9 d0=true:=sA pz (by kernel_rfl) (by kernel_rfl)
def v76:dU Ua d2=true:=sA xq (by kernel_rfl) (by kernel_rfl)
def vF:dU [nQ false] d0=true:=sA pz (by kernel_rfl) (by kernel_rfl)
def vF2:dU [nQ false] d2=true:=sA xq (by kernel_rfl) (by kernel_rfl)
def Ha:gX g1 g1 d0=⟨[],false,0⟩:=H4 (HY v1 VX (by kernel_rfl) (by kernel_rfl) (r:=[nQ false]) (by kernel_rfl)) (Ib pz vF (by kernel_rfl))
def VZ:gX g1 g2 d0=⟨[18],true,0⟩:=H4 (HY v1 v2n (by kernel_rfl) (by kernel_rfl) (r:=T9) (by kernel_rfl)) (Ib pz VW (by kernel_rfl))
def V4:gX g2 g1 d0=⟨[],false,0⟩:=H4 (HY v2 VX (by kernel_rfl) (by kernel_rfl) (r:=[nQ false]) (by kernel_rfl)) (Ib pz vF (by kernel_rfl))
def V7:gX g7 g6 d2=⟨[0,0],true,0⟩:=H4 (HY v7 v6n (by kernel_rfl) (by kernel_rfl) (r:=Ua) (by kernel_rfl)) (Ib xq v76 (by kernel_rfl))
def w67:gX g6 g7 d2=⟨[],false,0⟩:=H4 (HY v6 v7n (by kernel_rfl) (by kernel_rfl) (r:=[nQ false]) (by kernel_rfl)) (Ib xq vF2 (by kernel_rfl))
def Kw {a b:Pv}{d D:List Fc}{c:CA}(hv:dH d=true)(ha:kJ d a.when_=0)(hb:kJ d b.when_=0)(hm:oG d (eM a.when_++eM b.when_) [] d=some D)(hD:D.length≤60)(hf:sq a b)(hs:(fP a.begin_ b.begin_ && fP a.end_ b.end_ && fP a.again b.again)=true)(hc:kj a.when_ b.when_ D=c)(he:c.e=0):jx a b d=if c.f=true then ⟨3,c.c,0⟩ else ⟨0,[],0⟩:=by
 unfold jx;rw[if_neg (by rw[hv];simp),if_neg (by rw[ha];simp),if_neg (by rw[hb];simp),hm];show Bz a b D=_;unfold Bz;rw[if_neg (by omega),if_neg (by simpa using hf),if_neg (by rw[hs];simp),hc,if_neg (by rw[he];simp)]
def Kb {a b:Fm}{D:List Fc}{x y:List Nd}{p q:WR}(ha:eL D (bL a)=0∧cH D (bL a)=x)(hb:eL D (bL b)=0∧cH D (bL b)=y)(hp:gX x y D=p)(hq:gX y x D=q):kj a b D=Mp p q:=by
 unfold kj;rw[if_neg (by rw[ha.1];simp),if_neg (by rw[hb.1];simp),ha.2,hb.2,hp,hq]
def Su (w w':Fm):sq (mv w 0) (mv w' 0):=by
 unfold sq;simp[mv]
def zNp:jx p1 p4 d0=⟨0,[],0⟩:=
 Kw (c:=⟨false,[],0⟩) pz (by kernel_rfl) (by kernel_rfl) (by kernel_rfl:_=some d0) (by decide) (Su _ _) (by kernel_rfl) ((Kb (SJ ▸ Sh) (zQi ▸ zQ3) Ha Ha).trans (by kernel_rfl)) rfl
def zIw:jx p1 p2 d0=⟨3,[18],0⟩:=
 Kw (c:=⟨true,[18],0⟩) pz (by kernel_rfl) (by kernel_rfl) (by kernel_rfl:_=some d0) (by decide) (Su _ _) (by kernel_rfl) ((Kb (SJ ▸ Sh) (zL1 ▸ zUa) VZ V4).trans (by kernel_rfl)) rfl
def zOu:jx p7 p6 d0=⟨3,[0,0],0⟩:=
 Kw (c:=⟨true,[0,0],0⟩) pz (by kernel_rfl) (by kernel_rfl) zOo (by decide) (Su _ _) (by kernel_rfl) ((Kb (zTa ▸ zMt) (zIp ▸ zJk) V7 w67).trans (by kernel_rfl)) rfl
end
section
variable {P : Program} {c : Cx} {σ τ υ : Sg} {h g : Tr ABlk} {nx ny sz : Nat} {w x : World} {tm : Tr AV} {a : Act}
def D6 (P:Program)(f:FuncId):Prop:=∀p q r w,CallsDIn Fence.wide 0 P f #[p,q,r] .returning w fun e u' w'=>(∃v,e=.returned v)∧u'=.returning∧w'=w
def zNw (hc:CxOk P c){fn:Func}{tmps:Array Value}{RR:Ending→World→Prop}{f:FuncId}{fd:Func}(bO:c.ft.get f=some fd)(hH:D6 P f){F C:List Value}{u1 u2 u3:AV}(hF:aC σ [] F)(hC:aC σ [u1,u2,u3] C)(hf:∃v,(results fn tmps).run P w=.ok v w∧RR (.returned v) w):
  LeavesInM Fence.wide 0 P fn tmps RR [{ target:=.fn (.func f) C.toArray,args:=F.toArray }] .returning w:=by
 obtain⟨_,bu⟩:=hc.ft f fd bO;simp only[aC]at hF hC;obtain⟨p,C1,rfl,_,q,C2,rfl,_,r,C3,rfl,_,rfl⟩:=hC;subst hF;refine⟨by simp,.inr ⟨fun hh=>by simp[Fence.wide]at hh,_,_,f,#[p,q,r],rfl,bu _ w,fun _ _=>trivial,?_⟩⟩;refine CallsDIn.mono (hH p q r w) ?_
 rintro e u' w' ⟨⟨v,rfl⟩,rfl,rfl⟩
 exact hf
def zPg (c:Cx)(rs:List ResultVar)(hm:FuncId→Prop)(R:AV→Tr ABlk→Nat→Prop):AX→AS→Prop
 |.exit _,_=>False
 |_,.mk tm h nx ds=>∃f a b e l,ds=[.fn f [] [a,b,e]]∧hm f∧jy c tm h nx rs=some l∧R (qj l) h nx
def zPq (hc:CxOk P c){f:FuncId}{fn:Func}(bO:c.ft.get f=some fn){code:Code}(hb:fn.body=some code){args:List AV}(hle:args.length≤fn.ntmps){R:AV→Tr ABlk→Nat→Prop}{hm:FuncId→Prop}(hH:∀f,hm f→D6 P f∧∃fd,c.ft.get f=some fd)
  (hw:AW P c false fn.ntmps code (zPg c fn.results.toList hm R) (.mk (eu args .nil 0) h nx [])):bf P c f args h nx R:=by
 intro σ w A hk hA;obtain⟨hf,bu⟩:=hc.ft f fn bO;unfold CR;rw[bu];simp only;have Um:A.length=args.length:=hA.length;have aU:St σ (eu args .nil 0) { tmps:=A.toArray++Array.replicate (fn.ntmps-A.toArray.size) undef,defers:=[] } fn.ntmps []:=by
  refine⟨fun t u e=>?_,by simp;omega,rfl⟩;rw[qo]at e
  by_cases h1:0≤t∧t<0+args.length
  ·rw[if_pos h1,Nat.sub_zero]at e;obtain⟨U,e1,e2⟩:=hA.get e;have ht:t<A.length:=by omega
   rw[aa ht]at e1;cases e1;simp only[Array.getD_eq_getD_getElem?];rw[Array.getElem?_append_left (by simpa using ht)];simpa[ht]using e2
  ·rw[if_neg h1]at e;cases e
 refine callsIn_wide.1 (callsIn_of_wp_marks (F:=Fence.wide) (n:=0) hf hb trivial (wpIn_mono (hw none (fun _=>rfl) σ _ w hk aU) fun e a' w' q=>?_));obtain⟨k,tm,g,ny,ds,τ,e1,q1,q2,q3⟩:=q;have fin:(∃f a b e l,ds=[.fn f [] [a,b,e]]∧hm f∧jy c tm g ny fn.results.toList=some l∧R (qj l) g ny)→LeavesInM Fence.wide 0 P fn a'.tmps (fun e x=>match e with |.returned v=>∃τ v' g ny,av τ v' v∧Post c.G σ h nx w τ g ny x∧R v' g ny |_=>False) a'.defers .returning w':=by
  rintro⟨f0,b1,b2,b3,l,rfl,h0,hl,hR⟩
  obtain⟨F,C,D',e2,hF,hC,e3⟩:=q2.defers;have sN:D'=[]:=e3;subst sN;rw[e2];obtain⟨h1,fd,h2⟩:=hH f0 h0;obtain⟨V,r1,r2⟩:=zz4 hc q1.ok q2.tm hl;exact zNw hc h2 h1 hF hC ⟨V,r1,τ,qj l,g,ny,r2,q1,hR⟩
 cases k with
 |norm=>subst e1;exact fin q3
 |ret=>subst e1;exact fin q3
 |exit id=>exact q3.elim
def Ly (c:Cx)(ca:Ca)(ya:Ya) (sz:Nat)(ops:Array Oper)(tm:Tr AV)(h:Tr ABlk) (nx:Nat)(ds:List DE):ER:=
 match ops.toList with
 |[o1,⟨none,.defer ⟨.value f,args,_⟩,_,_,_,none⟩]=>match args.toList with
  |[]=>match Ik c ca ya sz ops.toList o1 tm h nx OS.ok with
   |.ok tm h nx=>match aL c.G tm f with
    |some (.func fid first cap)=>.norm tm h nx (.fn fid first cap::ds)
    |_=>.fail
   |.fail=>.fail
  |_=>.fail
 |_=>.fail
def zSp (hc:CxOk P c){ca:Ca}(dA:jO P c ca){ya:Ya}(il:qt P c ya){ops:Array Oper}{id:Nat}{tm:Tr AV}{h:Tr ABlk}{nx:Nat}{ds:List DE}{r:ER}(he:Ly c ca ya sz ops tm h nx ds=r)(hr:r≠.fail):
  AW P c false sz (.region id ops false) (QE r) (.mk tm h nx ds):=by
 intro rr hi σ a w ok st;obtain rfl:=hi rfl;simp only[AS.tm,AS.h,AS.nx,AS.ds]at ok st;refine wpIn_region_list ?_;unfold Ly at he;split at he
 ·rename_i o1 f args ty t p af OX;split at he
  ·rename_i lz;cases h1:Ik c ca ya sz ops.toList o1 tm h nx OS.ok with
   |fail=>rw[h1]at he;exact absurd he.symm hr
   |ok aZ g1 n1=>
    rw[h1]at he;simp only at he;cases hv:aL c.G aZ f with
    |none=>rw[hv]at he;exact absurd he.symm hr
    |some fv=>
     rw[hv]at he;cases fv <;> try exact absurd he.symm hr
     rename_i fid first cap
     subst he;rw[OX];unfold wpListIn;refine Yj hc dA il (ops:=ops) (k:=OS.ok) h1 (by simp) ok st _ _ fun τ xd a1 w1 h2 n2 e1 p1 s1=>?_;cases e1;unfold wpListIn;rw[if_pos (show Region.wanted (⟨none,.defer ⟨.value f,args,ty⟩,t,p,af,none⟩:Oper) (yielded ops a1.tmps)=true from rfl)];have lD:=kH p1.ok s1.tm hv;simp only[av]at lD;obtain⟨F,C,e2,r1,r2⟩:=lD;refine⟨fun _ _=>trivial,?_⟩;have ea:args=#[]:=by cases args;simp_all
     subst ea;have hex:(Oper.semAt (dT none).round a1.eval ⟨none,.defer ⟨.value f,#[],ty⟩,t,p,af,none⟩).run P w1=.ok (.defer { target:=.fn (.func fid) C.toArray,args:=F.toArray }) w1:=by
      show (Oper.semAt none a1.eval _).run P w1=_;rw[Oper.semAt_none];have e3:execOp a1.eval ⟨none,.defer ⟨.value f,#[],ty⟩,t,p,af,none⟩=(do pure (.defer (← Deferred.ofValue (a1.eval f) (#[].map a1.eval)))):=rfl;rw[e3,e2];simp[Deferred.ofValue]
     rw[hex];refine⟨.norm,aZ,g1,n1,.fn fid first cap::ds,τ,rfl,p1,?_,rfl,rfl⟩;exact⟨s1.tm,s1.size,F,C,a1.defers,rfl,r1,r2,s1.defers⟩
  ·exact absurd he.symm hr
 ·exact absurd he.symm hr
def Hv:Code→Option (Array Oper)
 |.region _ ops false=>match ops.toList with
  |[_,o]=>match rA o.op with
   |true=>some ops
   |false=>none
  |_=>none
 |_=>none
def zKc {code:Code}{ops:Array Oper}(h:Hv code=some ops):∃id,code=.region id ops false:=by
 unfold Hv at h;split at h
 ·split at h
  ·split at h
   ·cases h;exact⟨_,rfl⟩
   ·cases h
  ·cases h
 ·cases h
def CB (c:Cx)(ca:Ca)(ya:Ya)(ed:Ed) (sz m:Nat) (k:Nat):Code→CE:=
 Nat.rec (motive:=fun _=>Code→CE) (fun code=>jU c ca ya ed false sz m code) (fun _ ih code=>match code with
  |.seq x y=>match Hv x with
   |some ops=>fun tm h nx ds=>xT (ih y) (Ly c ca ya sz ops tm h nx ds)
   |none=>fun tm h nx ds=>xT (ih y) (jU c ca ya ed false sz m x tm h nx ds)
  |code=>jU c ca ya ed false sz m code) k
def zEn (hc:CxOk P c){ca:Ca}(dA:jO P c ca){ya:Ya}(il:qt P c ya){ed:Ed}(l9:Ck P c ed){m:Nat}:∀(k:Nat)(code:Code)(tm:Tr AV)(h:Tr ABlk) (nx:Nat)(ds:List DE)(r:ER),CB c ca ya ed sz m k code tm h nx ds=r→r≠.fail→
  AW P c false sz code (QE r) (.mk tm h nx ds)
 |0,code,tm,h,nx,ds,r,he,hr=>xQ hc dA il l9 m code tm h nx ds r he hr
 |k+1,code,tm,h,nx,ds,r,he,hr=>by
  have ih:=zEn hc dA il l9 (m:=m) k;have plain:jU c ca ya ed false sz m code tm h nx ds=r→AW P c false sz code (QE r) (.mk tm h nx ds):=fun e=>xQ hc dA il l9 m code tm h nx ds r e hr;cases code with
  |seq x y=>
   have step:∀r1,xT (CB c ca ya ed sz m k y) r1=r→(r1≠.fail→AW P c false sz x (QE r1) (.mk tm h nx ds))→AW P c false sz (.seq x y) (QE r) (.mk tm h nx ds):=by
    intro r1 e hx;refine SR ?_;cases r1 with
    |fail=>exact absurd e.symm hr
    |norm aZ g1 n1 d1=>
     refine(hx (by simp)).mono ?_
     rintro k' s ⟨rfl,rfl⟩
     exact ih y aZ g1 n1 d1 r e hr
    |exit id aZ g1 n1 d1=>
     change ER.exit id aZ g1 n1 d1=r at e
     subst e;refine(hx (by simp)).mono ?_
     rintro k' s ⟨rfl,rfl⟩
     exact⟨rfl,rfl⟩
    |ret aZ g1 n1 d1=>
     change ER.ret aZ g1 n1 d1=r at e
     subst e;refine(hx (by simp)).mono ?_
     rintro k' s ⟨rfl,rfl⟩
     exact⟨rfl,rfl⟩
   change (match Hv x with
    |some ops=>fun tm h nx ds=>xT (CB c ca ya ed sz m k y) (Ly c ca ya sz ops tm h nx ds)
    |none=>fun tm h nx ds=>xT (CB c ca ya ed sz m k y) (jU c ca ya ed false sz m x tm h nx ds)) tm h nx ds=r at he
   cases hd:Hv x with
   |some ops=>
    rw[hd]at he;obtain⟨id,rfl⟩:=zKc hd;exact step _ he fun h1=>zSp hc dA il rfl h1
   |none=>
    rw[hd]at he;exact step _ he fun h1=>xQ hc dA il l9 m x tm h nx ds _ rfl h1
  |_=>exact plain he
def Kc (c:Cx)(ca:Ca)(ya:Ya)(ed:Ca→Ya→Ed) (m k:Nat)(hm:FuncId→Bool)(f:FuncId)(args:List AV)(h:Tr ABlk) (nx:Nat):CO:=
 match c.ft.get f with
 |none=>.fail
 |some fn=>match fn.body with
  |none=>.fail
  |some code=>match Nat.ble args.length fn.ntmps with
   |false=>.fail
   |true=>rZ args .nil 0 fun tm=>match CB c ca ya (ed ca ya) fn.ntmps m k code tm h nx [] with
    |.ret tm h nx [.fn f0 [] [_,_,_]]=>match hm f0 with
     |true=>match jy c tm h nx fn.results.toList with
      |some l=>.ok (qj l) h nx
      |none=>.fail
     |false=>.fail
    |_=>.fail
def zSb (hc:CxOk P c){ca:Ca}(dA:jO P c ca){ya:Ya}(il:qt P c ya){ed:Ca→Ya→Ed}(l9:Ck P c (ed ca ya)) (m k:Nat){hm:FuncId→Bool}(hH:∀f,hm f=true→D6 P f∧∃fd,c.ft.get f=some fd){f:FuncId}{args:List AV}{h:Tr ABlk}{nx:Nat}{v:AV}{g:Tr ABlk}{ny:Nat}(he:Kc c ca ya ed m k hm f args h nx=.ok v g ny):bf P c f args h nx (zL v g ny):=by
 unfold Kc at he;cases bO:c.ft.get f with
 |none=>rw[bO]at he;cases he
 |some fn=>
 rw[bO]at he;simp only at he;cases hb:fn.body with
 |none=>rw[hb]at he;cases he
 |some code=>
 rw[hb]at he;simp only at he;cases hl:Nat.ble args.length fn.ntmps with
 |false=>rw[hl]at he;cases he
 |true=>
 rw[hl]at he;simp only[lP]at he;refine zPq hc bO hb (ai hl) (hm:=fun f=>hm f=true) hH ?_;cases fU:CB c ca ya (ed ca ya) fn.ntmps m k code (eu args .nil 0) h nx [] with
 |fail=>rw[fU]at he;cases he
 |exit id aZ g1 n1 d1=>rw[fU]at he;cases he
 |norm aZ g1 n1 d1=>rw[fU]at he;cases he
 |ret aZ g1 n1 d1=>
  rw[fU]at he;refine(zEn hc dA il l9 k code _ h nx [] _ fU (by simp)).mono ?_
  rintro k' s ⟨rfl,rfl⟩
  cases d1 with
  |nil=>cases he
  |cons d1 dd=>
   cases d1 with
   |mark i=>cases he
   |fn f0 a b=>
    have hx:∃u1 u2 u3,a=[]∧b=[u1,u2,u3]∧dd=[]:=by
     rcases a with _ |⟨a1,a⟩
     ·rcases b with _ |⟨u1,_ |⟨u2,_ |⟨u3,_ |⟨u4,b⟩⟩⟩⟩
      ·cases he
      ·cases he
      ·cases he
      ·cases dd with
       |nil=>exact⟨u1,u2,u3,rfl,rfl,rfl⟩
       |cons _ _=>cases he
      ·cases he
     ·cases he
    obtain⟨u1,u2,u3,rfl,rfl,rfl⟩:=hx;simp only at he;cases h0:hm f0 with
    |false=>rw[h0]at he;cases he
    |true=>
     rw[h0]at he;simp only at he;cases aH:jy c aZ g1 n1 fn.results.toList with
     |none=>rw[aH]at he;cases he
     |some l=>
      rw[aH]at he;cases he;exact⟨f0,u1,u2,u3,l,rfl,h0,aH,rfl,rfl,rfl⟩
end
section
open Go.Proofs
def Es (l2 n2:Nat) (f:Nat):Nat→Bool:=
 Nat.rec (motive:=fun _=>Nat→Bool) (fun _=>false) (fun _ ih n=>match Nat.beq (Nat.mod n (Nat.pow 256 l2)) n2 with
  |true=>true
  |false=>ih (Nat.div n 256)) f
def ZJ (l2 n2 f n:Nat):Es l2 n2 (f+1) n=match Nat.beq (n % 256 ^ l2) n2 with
  |true=>true
  |false=>Es l2 n2 f (n / 256):=rfl
def Zv:∀(l2 l n n2:Nat),n2<256 ^ l2→(cJ l2 n2).isPrefixOf (cJ l n)=(decide (l2≤l) && Nat.beq (n % 256 ^ l2) n2)
 |0,l,n,n2,h=>by
  have:n2=0:=by simpa using h
  subst this;simp[cJ,Nat.mod_one]
 |l2+1,0,n,n2,h=>by
  rw[r7];simp[cJ]
 |l2+1,l+1,n,n2,h=>by
  have h2:n2 / 256<256 ^ l2:=by
   rw[Nat.pow_succ]at h;exact Nat.div_lt_of_lt_mul (by rw[Nat.mul_comm];exact h)
  have hm:n % 256 ^ (l2+1)=n % 256+256 * (n / 256 % 256 ^ l2):=by
   rw[Nat.pow_succ,Nat.mul_comm,Nat.mod_mul]
  have a1:n % 256<256:=Nat.mod_lt _ (by decide);have a2:n2 % 256<256:=Nat.mod_lt _ (by decide);rw[r7,r7,List.isPrefixOf_cons_cons,Zv l2 l (n / 256) (n2 / 256) h2,hm];have hb:(UInt8.ofNat (n2 % 256) == UInt8.ofNat (n % 256))=decide (n2 % 256=n % 256):=by
   by_cases e:n2 % 256=n % 256
   ·rw[e];simp
   ·rw[decide_eq_false e,beq_eq_false_iff_ne];intro q;have:=congrArg UInt8.toNat q;rw[u8 a2,u8 a1]at this;exact e this
  rw[hb];have hk:Nat.beq (n % 256+256 * (n / 256 % 256 ^ l2)) n2=(decide (n2 % 256=n % 256) && Nat.beq (n / 256 % 256 ^ l2) (n2 / 256)):=by
   have e2:=Nat.div_add_mod n2 256;generalize n / 256 % 256 ^ l2=z;rw[Bool.eq_iff_iff];simp only[Nat.beq_eq,ao,decide_eq_true_eq];omega
  rw[hk];simp only[Nat.add_le_add_iff_right];cases decide (n2 % 256=n % 256) <;> cases decide (l2≤l) <;> rfl
def zNl (b:UInt8)(l sub:List UInt8):Lib.contains (b::l) sub=(sub.isPrefixOf (b::l) || Lib.contains l sub):=by
 unfold Lib.contains;have h1:=Lib.index_ge l sub;rw[Lib.index];cases hp:sub.isPrefixOf (b::l) with
 |true=>rw[if_pos rfl];rfl
 |false=>
  rw[if_neg (by simp),Bool.false_or]
  by_cases q:Lib.index l sub=-1
  ·rw[if_pos (by rw[q];rfl),q]
  ·rw[if_neg (by rw[beq_iff_eq];exact q)];have a:0≤Lib.index l sub:=by omega
   rw[decide_eq_true a,decide_eq_true (by omega)]
def ZU {l2 n2:Nat}(h2:n2<256 ^ l2):∀(l n:Nat),Lib.contains (cJ l n) (cJ l2 n2)=Es l2 n2 (Nat.sub (Nat.succ l) l2) n
 |0,n=>by
  cases l2 with
  |zero=>
   have:n2=0:=by simpa using h2
   subst this;show Lib.contains [] []=Es 0 0 1 n;rw[show (1:Nat)=0+1 from rfl,ZJ];simp[Nat.mod_one];rfl
  |succ k=>
   rw[show Nat.sub (Nat.succ 0) (k+1)=0 from by show 0+1-(k+1)=0;omega];rw[r7];rfl
 |l+1,n=>by
  have ih:=ZU h2 l (n / 256);have hp:=Zv l2 (l+1) n n2 h2;rw[r7]at hp ⊢;rw[zNl,hp,ih]
  rcases Nat.lt_or_ge (l+1) l2 with q |q
  ·rw[show Nat.sub (Nat.succ (l+1)) l2=0 from by show l+1+1-l2=0;omega,show Nat.sub (Nat.succ l) l2=0 from by show l+1-l2=0;omega,decide_eq_false (by omega)];rfl
  ·rw[show Nat.sub (Nat.succ (l+1)) l2=Nat.sub (Nat.succ l) l2+1 from by show l+1+1-l2=l+1-l2+1;omega,decide_eq_true q,ZJ,Bool.true_and];cases Nat.beq (n % 256 ^ l2) n2 <;> rfl
def Sv (f0:FuncId)(ca:Ca):Ca:=fun f args h nx=>match Nat.beq f f0 with
 |true=>match args with
  |[.str l n,.str l2 n2]=>match Nat.ble l 100000 with
   |true=>match Es l2 n2 (Nat.sub (Nat.succ l) l2) n with
    |true=>.ok (.bool true) h nx
    |false=>.ok (.bool false) h nx
   |false=>.fail
  |_=>.fail
 |false=>ca f args h nx
variable {c : Cx} {σ : Sg} {h g : Tr ABlk} {nx ny : Nat} {w : World}
def R3 (l n:Nat):(bK l n).data.toList=cJ l n:=rfl
def zTm (l n:Nat):(cJ l n).length=l:=by simp[cJ]
def zR6 (hc:CxOk Tryz.prog c){fn:Func}(bO:c.ft.get 266=some fn)(hT:c.G.tab 3=some [.opq 0]){ca:Ca}(dA:jO Tryz.prog c ca):jO Tryz.prog c (Sv 266 ca):=by
 intro f args h nx v g ny he;unfold Sv at he;cases hf:Nat.beq f 266 with
 |false=>rw[hf]at he;exact dA f args h nx v g ny he
 |true=>
  rw[hf]at he;have e1:=ad hf;subst e1;simp only at he;split at he
  ·rename_i l n l2 n2;cases hb:Nat.ble l 100000 with
   |false=>rw[hb]at he;cases he
   |true=>
   rw[hb]at he;simp only at he;intro σ w A ok hA;simp only[aC,av]at hA;obtain⟨V1,L1,rfl,⟨b1,rfl⟩,V2,L2,rfl,⟨b2,rfl⟩,rfl⟩:=hA;obtain⟨b,o,L,q1,q2,q3⟩:=ok.ip (ok.gl 3 _ hT);simp only[Value.pointer.injEq,Option.some.injEq,Addr.mk.injEq,and_true]at q1;obtain⟨rfl,rfl⟩:=q1;simp only[aC,av]at q2;obtain⟨V,L',rfl,⟨_,_,q4⟩,rfl⟩:=q2;obtain⟨m,rfl⟩:=q4 trivial;have hm:=q3 0 _ rfl;have bu:=Any.strings_Contains Tryz.lays144 (bK l n) (bK l2 n2) m w (by
    have:=ai hb;show (bK l n).data.size < _;rw[← Array.length_toList,R3,zTm];omega) hm
   refine Hw hc bO (bu.mono ?_)
   rintro e x ⟨rfl,rfl⟩
   rw[R3,R3,ZU b2];cases hr:Es l2 n2 (Nat.sub (Nat.succ l) l2) n with
   |true=>
    rw[hr]at he;cases he;exact⟨σ,_,_,_,by simp only[av],.refl ok,rfl,rfl,rfl⟩
   |false=>
    rw[hr]at he;cases he;exact⟨σ,_,_,_,by simp only[av],.refl ok,rfl,rfl,rfl⟩
  ·cases he
def uk (w:World):(binOp BinOp.neq 20 .nilIface .nilIface).run Tryz.prog w=.ok (.bool false) w:=by kernel_rfl
def zTz:D6 Tryz.prog 107:=by
 intro p q r w;refine callsDIn_of_wpSIn (fn:=Tryz.f107) (by kernel_rfl) rfl trivial fun c₀ cs hu=>?_;apply wpSIn_seq;apply wpSIn_region;simp[wpOpsSIn,go_sem,recoverD,hu,Exit.thenS];apply wpSIn_seq;apply wpSIn_region;simp[wpOpsSIn,go_sem,uk,Exit.thenS];refine wpSIn_cond (t:=false) (by simp[Act.eval,Array.replicate]) ?_;simp only[Bool.false_eq_true,if_false];refine wpSIn_of_wpIn rfl (wpIn_skip ?_);cases c₀
 simp_all [bodyPostS,results]
def zPf:D6 Tryz.prog 109:=by
 intro p q r w;refine callsDIn_of_wpSIn (fn:=Tryz.f109) (by kernel_rfl) rfl trivial fun c₀ cs hu=>?_;apply wpSIn_seq;apply wpSIn_region;simp[wpOpsSIn,go_sem,recoverD,hu,Exit.thenS];apply wpSIn_seq;apply wpSIn_region;simp[wpOpsSIn,go_sem,uk,Exit.thenS];refine wpSIn_cond (t:=false) (by simp[Act.eval,Array.replicate]) ?_;simp only[Bool.false_eq_true,if_false];refine wpSIn_of_wpIn rfl (wpIn_skip ?_);cases c₀
 simp_all [bodyPostS,results]
end
section
open Go.Proofs Go.RowKit
def aD (n:Nat):AV:=.int .u8 (.ofNat n)
def RQ:List AV:=[aD 0,aD 0,aD 0,aD 0,aD 0,aD 0,aD 0,aD 0,aD 0,aD 1,aD 1,aD 0,aD 0,aD 0,aD 0,aD 0,aD 0,aD 0,aD 0,aD 0,aD 0,aD 0,aD 0,aD 0,aD 0,aD 0,aD 0,aD 0,aD 0,aD 0,aD 0,aD 0,aD 1,aD 8,aD 0,aD 2,aD 0,aD 0,aD 0,aD 0,aD 6,aD 6,aD 0,aD 0,aD 6,aD 0,aD 6,aD 0,aD 4,aD 4,aD 4,aD 4,aD 4,aD 4,aD 4,aD 4,aD 4,aD 4,aD 6,aD 6,aD 7,aD 6,aD 7,aD 0,aD 0,aD 3,aD 3,aD 3,aD 3,aD 3,aD 3,aD 3,aD 3,aD 3,aD 3,aD 3,aD 3,aD 3,aD 3,aD 3,aD 3,aD 3,aD 3,aD 3,aD 3,aD 3,aD 3,aD 3,aD 3,aD 3,aD 3,aD 6,aD 0,aD 6,aD 0,aD 5,aD 0,aD 3,aD 3,aD 3,aD 3,aD 3,aD 3,aD 3,aD 3,aD 3,aD 3,aD 3,aD 3,aD 3,aD 3,aD 3,aD 3,aD 3,aD 3,aD 3,aD 3,aD 3,aD 3,aD 3,aD 3,aD 3,aD 3,aD 6,aD 0,aD 6,aD 0,aD 0,aD 0,aD 0,aD 0,aD 0,aD 0,aD 0,aD 0,aD 0,aD 0,aD 0,aD 0,aD 0,aD 0,aD 0,aD 0,aD 0,aD 0,aD 0,aD 0,aD 0,aD 0,aD 0,aD 0,aD 0,aD 0,aD 0,aD 0,aD 0,aD 0,aD 0,aD 0,aD 0,aD 0,aD 0,aD 0,aD 0,aD 0,aD 0,aD 0,aD 0,aD 0,aD 0,aD 0,aD 0,aD 0,aD 0,aD 0,aD 0,aD 0,aD 0,aD 0,aD 0,aD 0,aD 0,aD 0,aD 0,aD 0,aD 0,aD 0,aD 0,aD 0,aD 0,aD 0,aD 0,aD 0,aD 0,aD 0,aD 0,aD 0,aD 0,aD 0,aD 0,aD 0,aD 0,aD 0,aD 0,aD 0,aD 0,aD 0,aD 0,aD 0,aD 0,aD 0,aD 0,aD 0,aD 0,aD 0,aD 0,aD 0,aD 0,aD 0,aD 0,aD 0,aD 0,aD 0,aD 0,aD 0,aD 0,aD 0,aD 0,aD 0,aD 0,aD 0,aD 0,aD 0,aD 0,aD 0,aD 0,aD 0,aD 0,aD 0,aD 0,aD 0,aD 0,aD 0,aD 0,aD 0,aD 0,aD 0,aD 0,aD 0,aD 0,aD 0,aD 0,aD 0,aD 0,aD 0,aD 0]
def zUr:iS mB=RQ:=by kernel_rfl
def G2:Gl:=⟨6,false,zf⟩
def lX:Cx:=IH false Tryz.prog G2 400 357
def Il:CxOk Tryz.prog lX:=zF1 _ _ _ _ _
def DR:lX.G=G2:=rfl
def zPx:aB Tryz.prog lX 220 [] (.agg RQ):=by
 have h:=zyh;rw[zUr]at h;exact h.tab (by rw[DR,ET];rfl) (fun g cs h=>by rw[DR];rw[ET]at h;exact h)
def TB (ca:Ca):Ca:=fun f args h nx=>match Nat.beq f 220 with
 |true=>match args with
  |[]=>.ok (.agg RQ) h nx
  |_=>.fail
 |false=>ca f args h nx
def zMh {ca:Ca}(dA:jO Tryz.prog lX ca):jO Tryz.prog lX (TB ca):=by
 intro f args h nx v g ny he;unfold TB at he;cases hf:Nat.beq f 220 with
 |false=>rw[hf]at he;exact dA f args h nx v g ny he
 |true=>
  rw[hf]at he;have e1:=ad hf;subst e1;simp only at he;split at he
  ·cases he;exact zPx h nx
  ·cases he
def CC (c:Cx):CY:=ev c (fun ca=>TB (Sv 266 (LD 275 (Ll 315 ca)))) (fun ca ya=>Cz c ca ya) 100000 60
def Jh (f:FuncId):Bool:=Nat.beq f 107 || Nat.beq f 109
def DO (f:Nat)(args:List AV):CO:=
 r9 (x8 false Tryz.prog) 400 fun tt=>r9 (rE Tryz.prog) 357 fun ft=>Kc (.mk tt .nil ft G2 (B7 Tryz.prog)) (CC (.mk tt .nil ft G2 (B7 Tryz.prog))).ca (CC (.mk tt .nil ft G2 (B7 Tryz.prog))).ya (fun ca ya=>Cz (.mk tt .nil ft G2 (B7 Tryz.prog)) ca ya) 100000 20 Jh f args .nil 6
def zO3 (f:Nat)(args:List AV):DO f args=Kc lX (CC lX).ca (CC lX).ya (fun ca ya=>Cz lX ca ya) 100000 20 Jh f args .nil 6:=by
 unfold DO;rw[zo];show r9 (rE Tryz.prog) 357 _=_;rw[zo];rfl
def Tn {b:Bool}{P:Program}{G:Gl}{nt nf:Nat}{f:FuncId}{fn:Func}(hf:f<nf)(h:rE P f=some fn):(IH b P G nt nf).ft.get f=some fn:=by
 show (tab (rE P) nf).get f=_;rw[K3 _ _ _ hf];exact h
def zOa:lX.ft.get 107=some Tryz.f107:=Tn (by decide) (by kernel_rfl)
def zHz:lX.ft.get 109=some Tryz.f109:=Tn (by decide) (by kernel_rfl)
def zQd:lX.ft.get 266=some Tryz.f266:=Tn (by decide) (by kernel_rfl)
def Lu:jO Tryz.prog lX (CC lX).ca∧qt Tryz.prog lX (CC lX).ya:=
 Rt Il (fun _ dA=>zMh (zR6 Il zQd rfl (YW XZ (zFi Yd dA)))) (fun _ _ h1 h2=>S7 mixed Il h1 h2) 100000 60
def zHv (f:FuncId)(h:Jh f=true):D6 Tryz.prog f∧∃fd,lX.ft.get f=some fd:=by
 unfold Jh at h
 rcases Bool.or_eq_true _ _ ▸ h with h |h
 ·have:=ad h;subst this;exact⟨zTz,_,zOa⟩
 ·have:=ad h;subst this;exact⟨zPf,_,zHz⟩
def zO1 {f:Nat}{args:List AV}{v:AV}{g:Tr ABlk}{ny:Nat}(h:DO f args=.ok v g ny):bf Tryz.prog lX f args .nil 6 (zL v g ny):=by
 rw[zO3]at h;exact zSb Il Lu.1 Lu.2 (S7 mixed Il Lu.1 Lu.2) 100000 20 zHv h
def Hr (r:CO)(u:AV):Bool:=match r with
 |.ok v g _=>Ch v u && ((g.get 0).isNone && ((g.get 1).isNone && ((g.get 2).isNone && ((g.get 3).isNone && ((g.get 4).isNone && (g.get 5).isNone)))))
 |_=>false
def zHj {r:CO}{u:AV}(h:Hr r u=true):∃g ny,r=.ok u g ny∧∀k,k<6→g.get k=none:=by
 unfold Hr at h;split at h
 ·rename_i v g ny;simp only[ao,Option.isNone_iff_eq_none]at h;obtain⟨a1,a2,a3,a4,a5,a6,a7⟩:=h;refine⟨g,ny,by rw[Ki _ _ a1],fun k hk=>?_⟩
  match k,hk with
  |0,_=>exact a2
  |1,_=>exact a3
  |2,_=>exact a4
  |3,_=>exact a5
  |4,_=>exact a6
  |5,_=>exact a7
 ·cases h
def zRo {c:Cx}{f:FuncId}{l n:Nat}{h:Tr ABlk}{nx:Nat}{R:AV→Tr ABlk→Nat→Prop}(hn:n<256 ^ l)(hc:bf Tryz.prog c f [.str l n] h nx R):bf Tryz.prog c f [.bs (bK l n)] h nx R:=by
 intro σ w A ok hA;refine hc σ w A ok ?_;simp only[aC,av]at hA ⊢;obtain⟨V,L,e1,e2,e3⟩:=hA;exact⟨V,L,e1,⟨hn,e2⟩,e3⟩
def SQ:List AV:=[.str 2 12656,.int .i64 2,.int .i64 2,.str 3 7889268,.int .i64 5,.int .i64 3,.str 3 6645601,.int .i64 5,.int .i64 17,.sl0,.sl0,.int .i64 1,.str 0 0,.int .i64 0,.sl0,.int .i64 2,.str 0 0,.int .i64 0,.sl0,.int .i64 2,.str 0 0,.int .i64 0,.sl0]
def SS:List AV:=[.str 2 12656,.int .i64 2,.int .i64 2,.str 3 7889268,.int .i64 5,.int .i64 3,.str 3 6645601,.int .i64 6,.int .i64 18,.sl0,.sl0,.int .i64 1,.str 0 0,.int .i64 0,.sl0,.int .i64 2,.str 0 0,.int .i64 0,.sl0,.int .i64 2,.str 0 0,.int .i64 0,.sl0]
def zQj:Hr (DO 53 [.str 36 89781595541612542812568825523659187207980448655586184664718868602066417287077645542241]) (.tup [.agg SQ,.int .i64 0,.int .i64 0])=true:=by kernel_rfl
def zI9:Hr (DO 54 [.str 56 264595181224963706763764876332338481802628273462540133092131193619448999099283750174640082424607421107054726622538880623048715957266551]) (.tup [.agg SS,.int .i64 0,.int .i64 0])=true:=by kernel_rfl
def aB.of_nilT {P:Program}{c:Cx}(hG:∀g cs,c.G.tab g=some cs→∀(σ τ:Sg) V,(∀b C,σ.imm b=some C→τ.imm b=some C)→σ.opq=τ.opq→av σ (.ip cs) V→av τ (.ip cs) V){fid:FuncId}{args:List AV}{u:AV}(ha:lN args=true)(hu:jY u=true)
  (hc:bf P c fid args .nil c.G.n fun v g _=>az c.G.n .nil g∧Fz g c.G.n v u):aB P c fid args u:=by
 intro h nx σ w A hk hA
 let σ0:Sg:={ blk:=fun i=>if i<c.G.n then some i else none,cap:=σ.cap,opq:=σ.opq,imm:=σ.imm }
 have eY:Ok c.G σ0 .nil c.G.n w:=by
  refine⟨fun g hg=>if_pos hg,ae _,fun i hi=>if_neg (by omega),(fun i j b B B' h1=>by cases h1),(fun i B h1=>by cases h1),(fun b C hb=>⟨(hk.imm b C hb).1,(fun i B h1=>by cases h1)⟩),fun g cs hg=>?_⟩;exact hG g cs hg σ σ0 _ (fun _ _ e=>e) rfl (hk.gl g cs hg)
 refine(hc σ0 w A eY (aC.nf (σ:=σ) (τ:=σ0) (fun _ _ e=>e) args A ha hA)).mono fun V x q=>?_;obtain⟨τ,v,g,ny,q1,q2,q3,q4⟩:=q;have p:=Post.frz eY q2 q3;have hV:=q4.rel q2.ok V q1
 let τ':Sg:={ blk:=σ.blk,cap:=σ.cap,opq:=σ.opq,imm:=(τ.frz x g c.G.n).imm }
 have hle:σ.Le τ':=⟨fun _ _ e=>⟨e,rfl⟩,rfl,fun b C hb=>p.le.imm b C hb⟩;have nE:∀b,b<w.heap.size→x.heap[b]?=w.heap[b]?:=fun b hb=>p.fr.keep b hb fun i B hi=>by cases hi
 refine⟨τ',u,h,nx,av.nf (σ:=τ.frz x g c.G.n) (τ:=τ') (fun _ _ e=>e) u V hu hV,⟨⟨hk.glob,hk.le,hk.fresh,hk.inj,fun i B h1=>?_,fun b C hb=>⟨(p.ok.imm b C hb).1,fun i B h1 e=>?_⟩,fun i cs hi=>(hk.gl i cs hi).mono hle⟩,hle,⟨p.fr.os,p.fr.tape,p.fr.output,p.fr.size,fun b hb _=>nE b hb,fun i B b h1 h2=>.inr ⟨i,B,h1,h2⟩,fun b C hb=>?_⟩,ae _⟩,rfl,rfl,rfl⟩
 ·obtain⟨b,o,r1,r2,r3⟩:=hk.blk i B h1;exact⟨b,o,r1,by rw[nE b (BZ r2)];exact r2,r3.mono hle r1⟩
 ·rcases p.fr.imm b C hb with h2 |h2 |⟨j,B',hj,_⟩
  ·exact(hk.imm b C h2).2 i B h1 e
  ·have:=hk.blt h1 e;omega
  ·cases hj
 ·rcases p.fr.imm b C hb with h2 |h2 |⟨j,B',hj,_⟩
  ·exact .inl h2
  ·exact .inr (.inl h2)
  ·cases hj
def zNu:lN xz=true:=by kernel_rfl
def zPd (g:Nat)(cs:List AV)(h:zf g=some cs)(σ τ:Sg)(V:Value)(h1:∀b C,σ.imm b=some C→τ.imm b=some C)(h2:σ.opq=τ.opq)(hr:av σ (.ip cs) V):av τ (.ip cs) V:=by
 unfold zf at h;split at h
 ·cases h;exact av.nf h1 _ V (by simpa only[jY]using zNu) hr
 ·cases h;simp only[av,aC]at hr ⊢;obtain⟨b,o,C,L,e1,e2,⟨U,L',e3,⟨e4,e5⟩,e6⟩,e7⟩:=hr;exact⟨b,o,C,L,e1,h1 _ _ e2,⟨U,L',e3,⟨by rw[e4,h2],e5⟩,e6⟩,e7⟩
 ·cases h
def Zz {f l n:Nat}{s:ByteArray}{u:List AV}(hs:bK l n=s)(hn:n<256 ^ l)(hr:Hr (DO f [.str l n]) (.tup [.agg u,.int .i64 0,.int .i64 0])=true)(hu:lN u=true)(hp:bJ u=true):aM f [.bs s] (.tup [.agg u,.int .i64 0,.int .i64 0]):=by
 obtain⟨g,ny,hr,hg⟩:=zHj hr;have hc:=zO1 hr;have h1:aB Tryz.prog lX f [.str l n] (.tup [.agg u,.int .i64 0,.int .i64 0]):=by
  refine aB.of_nilT (fun g cs h=>zPd g cs (by rw[DR]at h;exact h)) rfl (by simp only[jY,lN,hu]) ?_;rw[DR];refine bf.mono hc ?_
  rintro v' g' pc ⟨rfl,rfl,rfl⟩
  exact⟨fun k hk=>hg k hk,Fz.same _ (by simp[plain,bJ,hp])⟩
 have h2:=h1.tab (c':=cx) (by rw[DR,ET];rfl) (fun g cs h=>by rw[ET];rw[DR]at h;exact h);intro h nx;rw[← hs];exact zRo hn (h2 h nx)
def Hm:ByteArray:=⟨#[97,99,116,32,112,49,58,32,97,110,115,119,101,114,32,116,97,120,32,105,115,32,53,32,105,102,32,97,103,101,32,62,32,49,55,46]⟩
def HO:ByteArray:=⟨#[119,104,101,114,101,32,123,32,97,103,101,32,49,56,32,108,101,97,115,116,32,125,32,113,117,101,115,116,105,111,110,32,116,97,120,32,103,105,118,101,115,32,53,32,91,115,116,97,116,117,116,101,32,112,49,93]⟩
def zNx:aM 53 [.bs Hm] (.tup [.agg SQ,.int .i64 0,.int .i64 0]):=Zz (by kernel_rfl) (of_decide_eq_true (by kernel_rfl)) zQj (by kernel_rfl) (by kernel_rfl)
def zUc:aM 54 [.bs HO] (.tup [.agg SS,.int .i64 0,.int .i64 0]):=Zz (by kernel_rfl) (of_decide_eq_true (by kernel_rfl)) zI9 (by kernel_rfl) (by kernel_rfl)
end
section
open Go.Proofs Go.RowKit
attribute [-go_sem] dN bX fC jg
def zUw:cx.ft.get 16=some Tryz.f16:=aO
def j9 (c n:Int):Pv:=⟨⟨#[112,49]⟩,2,2,⟨#[116,97,120]⟩,5,wT c n,[],.mk 1 .empty 0 [],.mk 2 .empty 0 [],.mk 2 .empty 0 []⟩
def zLw:(j9 5 17).cs=[.bs (bK 2 12656),.int .i64 2,.int .i64 2,.bs (bK 3 7889268),.int .i64 5,.int .i64 3,.bs (bK 3 6645601),.int .i64 5,.int .i64 17,.fz 5 false [],.fz 1 false [],.int .i64 1,.bs (bK 0 0),.int .i64 0,.fz 4 false [],.int .i64 2,.bs (bK 0 0),.int .i64 0,.fz 4 false [],.int .i64 2,.bs (bK 0 0),.int .i64 0,.fz 4 false []]:=by kernel_rfl
def zPn:(j9 6 18).cs=[.bs (bK 2 12656),.int .i64 2,.int .i64 2,.bs (bK 3 7889268),.int .i64 5,.int .i64 3,.bs (bK 3 6645601),.int .i64 6,.int .i64 18,.fz 5 false [],.fz 1 false [],.int .i64 1,.bs (bK 0 0),.int .i64 0,.fz 4 false [],.int .i64 2,.bs (bK 0 0),.int .i64 0,.fz 4 false [],.int .i64 2,.bs (bK 0 0),.int .i64 0,.fz 4 false []]:=by kernel_rfl
def zMf:fS SQ (j9 5 17).cs:=by
 rw[zLw];exact .cons _ _ _ _ (.str 2 12656) (.cons _ _ _ _ (.same _) (.cons _ _ _ _ (.same _) (.cons _ _ _ _ (.str 3 7889268) (.cons _ _ _ _ (.same _) (.cons _ _ _ _ (.same _) (.cons _ _ _ _ (.str 3 6645601) (.cons _ _ _ _ (.same _) (.cons _ _ _ _ (.same _) (.cons _ _ _ _ (.sl0 5 false) (.cons _ _ _ _ (.sl0 1 false) (.cons _ _ _ _ (.same _) (.cons _ _ _ _ (.str 0 0) (.cons _ _ _ _ (.same _) (.cons _ _ _ _ (.sl0 4 false) (.cons _ _ _ _ (.same _) (.cons _ _ _ _ (.str 0 0) (.cons _ _ _ _ (.same _) (.cons _ _ _ _ (.sl0 4 false) (.cons _ _ _ _ (.same _) (.cons _ _ _ _ (.str 0 0) (.cons _ _ _ _ (.same _) (.cons _ _ _ _ (.sl0 4 false) .nil))))))))))))))))))))))
def zQb:fS SS (j9 6 18).cs:=by
 rw[zPn];exact .cons _ _ _ _ (.str 2 12656) (.cons _ _ _ _ (.same _) (.cons _ _ _ _ (.same _) (.cons _ _ _ _ (.str 3 7889268) (.cons _ _ _ _ (.same _) (.cons _ _ _ _ (.same _) (.cons _ _ _ _ (.str 3 6645601) (.cons _ _ _ _ (.same _) (.cons _ _ _ _ (.same _) (.cons _ _ _ _ (.sl0 5 false) (.cons _ _ _ _ (.sl0 1 false) (.cons _ _ _ _ (.same _) (.cons _ _ _ _ (.str 0 0) (.cons _ _ _ _ (.same _) (.cons _ _ _ _ (.sl0 4 false) (.cons _ _ _ _ (.same _) (.cons _ _ _ _ (.str 0 0) (.cons _ _ _ _ (.same _) (.cons _ _ _ _ (.sl0 4 false) (.cons _ _ _ _ (.same _) (.cons _ _ _ _ (.str 0 0) (.cons _ _ _ _ (.same _) (.cons _ _ _ _ (.sl0 4 false) .nil))))))))))))))))))))))
def zO7:aM 53 [.bs Hm] (.tup [.agg (j9 5 17).cs,.int .i64 0,.int .i64 0]):=
 zNx.wk (.cons _ _ _ _ (.same _) .nil) (.tup _ _ (.cons _ _ _ _ (.agg _ _ zMf) (.cons _ _ _ _ (.same _) (.cons _ _ _ _ (.same _) .nil))))
def zNq:aM 54 [.bs HO] (.tup [.agg (j9 6 18).cs,.int .i64 0,.int .i64 0]):=
 zUc.wk (.cons _ _ _ _ (.same _) .nil) (.tup _ _ (.cons _ _ _ _ (.agg _ _ zQb) (.cons _ _ _ _ (.same _) (.cons _ _ _ _ (.same _) .nil))))
def zTy:dI (wT 5 17)=g1:=by kernel_rfl
def zTn:eL d0 (bL (wT 5 17))=0∧cH d0 (bL (wT 5 17))=dI (wT 5 17):=
 Ko (f:=wT 5 17) (by kernel_rfl) (by simp[wT,jz,jh,jk]) (by kernel_rfl) (by rw[show (br (gI (wT 5 17)).2.L (gI (wT 5 17)).1).length=3 by kernel_rfl];omega)
def zRa:sq (j9 5 17) (j9 6 18):=by
 unfold sq;simp[j9]
def zSw:jx (j9 5 17) (j9 6 18) d0=⟨0,[],0⟩:=
 Kw (c:=⟨false,[],0⟩) pz (by kernel_rfl) (by kernel_rfl) (by kernel_rfl:_=some d0) (by decide) zRa (by kernel_rfl) ((Kb (zTy ▸ zTn) (SJ ▸ Sh) Ha Ha).trans (by kernel_rfl)) rfl
def zGr:aM 12 [.agg (j9 5 17).cs,.agg (j9 6 18).cs,.agg [.fz 4 false (aN d0)]] (.tup [.agg [.int .i64 0,.fz 1 false []],.int .i64 0]):=by
 have h:=QA false (j9 5 17) (j9 6 18) d0 (by decide) (by decide) (by decide) Yo (by simp[j9]) (by simp[j9]) (by simp[j9,bB.size,iv]) (by simp[j9,bB.size,iv]);rw[zSw]at h;exact h
def zRk:HK=[.int .i64 2,.bs ⟨#[112,49]⟩,.bs .empty,.bs .empty,.bs Hm,.bs HO,.bool false]:=rfl
def zLp (A S:Pv)(D:AV)(hN:aM 53 [.bs Hm] (.tup [.agg A.cs,.int .i64 0,.int .i64 0]))(hS:aM 54 [.bs HO] (.tup [.agg S.cs,.int .i64 0,.int .i64 0]))
  (hD:aM 12 [.agg A.cs,.agg S.cs,.agg [D]] (.tup [.agg [.int .i64 0,.fz 1 false []],.int .i64 0])) (hid:A.id=⟨#[112,49]⟩) (qZ:bJ A.cs=true):aM 16 [.agg HK,.agg [D]] (.tup [.agg A.cs,.agg [.int .i64 0,.fz 1 false []],.int .i64 0]):=by
 obtain⟨T,hT⟩:∃T,A.cs=.bs ⟨#[112,49]⟩::T:=⟨_,by rw[← hid];rfl⟩;have l1:=A.cs_len;have l2:=S.cs_len;have o1:=yV A;have o2:=yV S;have z1:Hm.size=36:=rfl;have z2:HO.size=56:=rfl;rw[hT]at hN hD l1 o1 qZ ⊢;simp only[List.length_cons]at l1;have l1:T.length=22:=by omega
 have k1:List.take 22 T=T:=ar (by omega);generalize S.cs=PS at *;have k2:List.take 23 PS=PS:=ar (by omega);refine aB.mkW fun h nx R hR=>aP zUw (sz:=75) (rs:=[.cell 4 30,.cell 5 43,.tmp 6]) ?_;have V:=Pz nx;simp[go_sem,zRk,z1,z2,V];refine aB.use hN ?_;simp[go_sem,aA,aI,l1,o1,V];refine aB.use hS ?_;simp[go_sem,aA,aI,l1,l2,o2,k1,k2,V];refine aB.use hD ?_;simp[go_sem,aA,aI];refine eI [2,3] [] [(1,2)] ?_;simp[go_sem,aI,l1,o1,k1];refine hR _ _ _ _ ?_ (Fz.same _ (by simpa[plain,bJ]using qZ)) (.same _);simp(disch:=omega)only[aK,az.refl]
def zHe:aM 16 [.agg HK,.agg [.fz 4 false (aN d0)]] (.tup [.agg (j9 5 17).cs,.agg [.int .i64 0,.fz 1 false []],.int .i64 0]):=
 zLp (j9 5 17) (j9 6 18) _ zO7 zNq zGr rfl (by kernel_rfl)
def zL4:aM 8 [] (.bool true):=zGl zNp zIw zOu zQy (j9 5 17) rfl rfl zHe
end
end
end Go.Ev
