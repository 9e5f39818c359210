/- Texts. -/
import Derived.Test.YtkdnmldmffkkoaaGreatDoorP31
import Derived.Test.YtkdnmldmffkkoaaGreatDoorP32
set_option linter.unusedSimpArgs false
set_option linter.unusedVariables false
set_option maxRecDepth 100000
set_option maxHeartbeats 8000000
namespace Go.Ev
open Go.Proofs Go.RowKit
noncomputable section
variable {G : Gl} {σ τ υ : Sg} {h g f : Tr ABlk} {nx ny nz : Nat} {w w' x y : World}
theorem Post.adopt (hk:Ok G σ h nx w)(dG:Below w.heap.size w w'){b:Nat}(hb:w.heap.size≤b) (c:Nat)(B:ABlk)(o:Obj)(ho:w'.heap[b]?=some o)(hB:bX (σ.add nx b c) nx B o):
  Post G σ h nx w (σ.add nx b c) (h.put nx (some B)) (nx+1) w':=by
 have p:=Post.same hk dG.os dG.tape dG.output dG.size dG.block;have aU:=p.ok;have hle:σ.Le (σ.add nx b c):=Sg.add_le (hk.fresh nx (ae _));refine⟨⟨fun a ha=>?_,by have:=hk.le;omega,fun i hi=>?_,fun i j b' B1 B2 h1 h2 h3 h4=>?_,fun i B1 h1=>?_,fun b' C aS=>?_,fun g cs hg=>(hk.gl g cs hg).mono hle⟩,hle,⟨dG.os,dG.tape,dG.output,dG.size,fun b' aS _=>dG.block b' aS,fun i B1 b' h1 h2=>?_,fun _ _ h=>.inl h⟩,by omega⟩
 ·have:a≠nx:=by have:=hk.le;omega
  simp[Sg.add,this,hk.glob a ha]
 ·have:i≠nx:=by omega
  simp[Sg.add,this,hk.fresh i (by omega)]
 ·rw[Tr.get_put]at h1 h2;have fJ:∀k B',(if k=nx then some B else h.get k)=some B'→k≠nx→(σ.add nx b c).blk k=some b'→h.get k=some B'∧σ.blk k=some b'∧b'<w.heap.size:=by
   intro k B' hh aQ gZ;rw[if_neg aQ]at hh;have aS:σ.blk k=some b':=by simpa[Sg.add,aQ]using gZ
   exact⟨hh,aS,hk.blt hh aS⟩
  by_cases e1:i=nx <;> by_cases e2:j=nx
  ·omega
  ·obtain⟨_,_,az⟩:=fJ j B2 h2 e2 h4;have:b'=b:=by subst e1;simpa[Sg.add]using h3.symm
   omega
  ·obtain⟨_,_,az⟩:=fJ i B1 h1 e1 h3;have:b'=b:=by subst e2;simpa[Sg.add]using h4.symm
   omega
  ·obtain⟨a1,a2,_⟩:=fJ i B1 h1 e1 h3;obtain⟨c1,c2,_⟩:=fJ j B2 h2 e2 h4;exact hk.inj i j b' B1 B2 a1 c1 a2 c2
 ·rw[Tr.get_put]at h1
  by_cases e:i=nx
  ·rw[if_pos e]at h1;cases h1;subst e;exact⟨b,o,by simp[Sg.add],ho,hB⟩
  ·rw[if_neg e]at h1;obtain⟨b',o',aS,e9,hr⟩:=aU.blk i B1 h1;exact⟨b',o',(hle.blk i b' aS).1,e9,hr.mono hle aS⟩
 ·obtain⟨h1,h2⟩:=aU.imm b' C aS;refine⟨h1,fun i B' hi e=>?_⟩;rw[Tr.get_put]at hi
  by_cases e':i=nx
  ·subst e';have Cd:b'=b:=by simpa[Sg.add]using e.symm
   obtain⟨⟨t,fr,h3⟩,_⟩:=hk.imm b' C aS;have:b'<w.heap.size:=Bq h3;omega
  ·rw[if_neg e']at hi;exact h2 i B' hi (by simpa[Sg.add,e']using e)
 ·rw[Tr.get_put]at h1
  by_cases e:i=nx
  ·subst e;have:b'=b:=by simpa[Sg.add]using h2.symm
   exact .inl (by omega)
  ·rw[if_neg e]at h1;have gZ:σ.blk i=some b':=by simpa[Sg.add,e]using h2
   exact .inr ⟨i,B1,h1,gZ⟩
theorem zGq {P:Program}{c:Cx}(hc:CxOk P c){fid:FuncId}{fn:Func}(cA:c.ft.get fid=some fn){es e sz:Nat}{full:Bool}{R:AV→Tr ABlk→Nat→Prop}
  (h1:∀(n cp:Nat) (w:World),Calls P fid #[.slice none n cp] w fun e w'=>e=.returned (.slice none 0 0)∧w'=w)
  (h2:∀(a:Addr) (cp:Nat) (w:World),Calls P fid #[.slice (some a) 0 cp] w fun q w'=>∃v',q=.returned v'∧w'.ownsRow w.heap.size e sz v' 0 []∧v'≠.slice none 0 0∧Below w.heap.size w w')
  (hR:R .sl0 h nx) (eX:R (.sl nx 0 0 0 true) (h.put nx (some (bx e [] true sz))) (nx+1)):aN P c fid [.fz es full []] h nx R:=by
 intro σ w A hk hA;simp only[aC,av]at hA;obtain⟨V,L,rfl,⟨a,cap,rfl,_,_,ha,_⟩,rfl⟩:=hA;refine GJ hc cA ?_;cases a with
 |none=>
  refine(h1 0 cap w).mono ?_
  rintro q w' ⟨rfl,rfl⟩
  exact⟨σ,.sl0,h,nx,by simp only[av],.refl hk,hR⟩
 |some a=>
  refine(h2 a cap w).mono ?_
  rintro q w' ⟨v',rfl,ho,aQ,hb⟩
  obtain⟨_,⟨e1,_⟩ |⟨g,cp,cur,rfl,hg,aF,_,_,eh,_⟩⟩:=ho
  ·exact absurd e1 aQ
  ·refine⟨σ.add nx g cp,.sl nx 0 0 0 true,h.put nx (some (bx e [] true sz)),nx+1,?_,Post.adopt hk hb hg cp _ _ aF ?_,eX⟩
   ·simp only[av];exact⟨g,by simp[Sg.add],by simp[Sg.add],by simp⟩
   ·simp only[bx,bX];refine⟨cur,(0,0),rfl,fun k hk=>by simp at hk,fun k _=>by omega,?_⟩;simp[Sg.add,eh]
end
end Go.Ev
namespace Go.Ev
open Go.Proofs Go.RowKit
noncomputable section
attribute [-go_sem] dw bP ep gH
theorem zUe:cx.ft.get 12=some Tryz.f12:=aT (by decide) (by kernel_rfl)
def dR (f:Fm):List ByteArray:=(dt nh [] f).1
theorem XF (f:Fm):(dR f).length≤f.size:=by
 have:=RB (mu:=List.length) Yc [] f;simpa[dR]using this
theorem zN6 (s:List ByteArray)(f:Fm)(hf:iw f)(hs:∀x∈s,x.size≤1000):∀x∈(nh s f).1,x.size≤1000:=by
 obtain⟨o,n,c,m,kids⟩:=f;intro x hx;simp only[nh]at hx;split at hx
 ·rcases List.mem_append.1 hx with h |h
  ·exact hs x h
  ·simp at h;rw[h];exact hf.2.2.2.1
 ·exact hs x hx
mutual
theorem YF:∀(s:List ByteArray)(f:Fm),iw f→(∀x∈s,x.size≤1000)→∀x∈(dt nh s f).1,x.size≤1000
 |s,.mk o n c m kids,hf,hs=>by
  have h1:=zN6 s (.mk o n c m kids) hf hs;rw[dt];split
  ·exact Xr _ kids hf.2.2.2.2.2 h1
  ·exact h1
theorem Xr:∀(s:List ByteArray)(l:List Fm),jR l→(∀x∈s,x.size≤1000)→∀x∈(ir nh s l).1,x.size≤1000
 |s,[],_,hs=>by rw[ir];exact hs
 |s,f::l,hf,hs=>by
  have h1:=YF s f hf.1 hs;rw[ir];split
  ·exact Xr _ l hf.2 h1
  ·exact h1
end
def k8 (d:List Fc)(f:Fm):Int:=rF uB (fun s=>decide (0≤fQ s (dR f))) d f
theorem W4 (u:Bool)(d:List Fc)(f:Fm)(hf:f.size≤1000000)(hd:d.length≤1000000000)(hl:(dR f).length≤1000000000):ay Tryz.prog cx 38 [.agg f.cs,.agg [.fz 4 u (aP d)],oB (dR f)] (.int .i64 (k8 d f)):=by
 unfold oB k8
 by_cases h:dR f=[]
 ·rw[if_pos h,h];have:=WO uB u d f hf hd Q8;have e:(fun s=>decide (0≤fQ s []))=fun _=>false:=by
   funext s
   simp[fQ]
  rw[e];exact this
 ·rw[if_neg h];exact zJv uB u false d (dR f) f hf hd hl Q8
open Classical in
def np (d:List Fc):List ByteArray→List ByteArray→List Fc→Option (List Fc)
 |[],_,D=>some D
 |n::l,seen,D=>if ¬bS (fun f:Fc=>decide (f.name=n)) d<0 then none else if n∈seen then np d l seen D else np d l (seen++[n]) (D++[⟨n,1,0,1⟩])
structure tJ where
 k:Int
 c:List Int
 e:Int
def tJ.v (r:tJ):AV:=.tup [.agg [.int .i64 r.k,.fz 1 false (aI r.c)],.int .i64 r.e]
open Classical in
def lV (a b:Pv)(D:List Fc):tJ:=
 if 60<D.length then ⟨0,[],2⟩
 else if ¬ew a b then ⟨1,[],0⟩
 else if (eH a.begin_ b.begin_ && eH a.end_ b.end_ && eH a.again b.again)=false then ⟨2,[],0⟩
 else if (kE a.when_ b.when_ D).e≠0 then ⟨0,[],(kE a.when_ b.when_ D).e⟩
 else if (kE a.when_ b.when_ D).f=true then ⟨3,(kE a.when_ b.when_ D).c,0⟩
 else ⟨0,[],0⟩
def cG (a b:Pv)(d:List Fc):tJ:=
 if eQ d=false then ⟨0,[],1⟩
 else if k8 d a.when_≠0 then ⟨0,[],k8 d a.when_⟩
 else if k8 d b.when_≠0 then ⟨0,[],k8 d b.when_⟩
 else match np d (dR a.when_++dR b.when_) [] d with
  |none=>⟨0,[],1⟩
  |some D=>lV a b D
def k7 (t:TypeId) (es lo:Nat)(h:Tr ABlk) (n:Nat)(v:AV)(cells:List AV) (len:Nat):Prop:=(len=0∧cells=[]∧v=.sl0)∨∃q,lo≤q∧q<n∧v=.sl q 0 len 0 true∧h.get q=some (bx t cells true es)
theorem zLu (l:List Fc):(aP l).flatMap AV.cells=l.flatMap Fc.cs:=by
 induction l with
 |nil=>rfl
 |cons x l ih=>rw[show aP (x::l)=.agg x.cs::aP l from rfl,List.flatMap_cons,List.flatMap_cons,ih];rfl
theorem Xv:∀l:List Fc,dB (l.flatMap Fc.cs)=true
 |[]=>rfl
 |x::l=>by
  have h1:=Xv l;simp[Fc.cs,dB,AV.one];exact h1
theorem zNt (l:List Fc):(l.flatMap Fc.cs).length=l.length * 4:=by
 induction l with
 |nil=>rfl
 |cons x l ih=>simp[ih,Fc.cs];omega
theorem Jg (l:List ByteArray):(bf l).flatMap AV.cells=bf l:=by
 induction l with
 |nil=>rfl
 |cons x l ih=>rw[show bf (x::l)=.bs x::bf l from rfl,List.flatMap_cons,ih];rfl
theorem Hz:∀l:List ByteArray,dB (bf l)=true
 |[]=>rfl
 |x::l=>Hz l
theorem zLe (u:Bool)(d:List Fc)(hl:d.length≤16000000)(h:Tr ABlk) (nx:Nat)(R:AV→Tr ABlk→Nat→Prop)(hR:∀v g ny,aA nx h g→nx≤ny→k7 65 4 nx g ny v (d.flatMap Fc.cs) d.length→R v g ny):aN Tryz.prog cx 40 [.fz 4 u (aP d)] h nx R:=by
 cases d with
 |nil=>
  refine zGq aE zzt zLr zUl (hR _ _ _ (aA.refl _ _) (ae _) (.inl ⟨rfl,rfl,rfl⟩)) (hR _ _ _ ?_ (Nat.le_succ _) (.inr ⟨nx,ae _,Nat.lt_succ_self _,rfl,by simp[go_sem]⟩));simp(disch:=omega)only[aL];exact aA.refl _ _
 |cons f l=>
  rw[show aP (f::l)=.agg f.cs::aP l from rfl];have e:=zLu (f::l);rw[show aP (f::l)=.agg f.cs::aP l from rfl]at e;refine zNz u (.agg f.cs) (aP l) (by rw[e];exact Xv _) (by rw[Sf];simp at hl;omega) h nx R fun g q ny h1 h2 h3 h4=>?_;rw[e]at h4;rw[Sf];exact hR _ _ _ h1 (by omega) (.inr ⟨q,h2,h3,rfl,h4⟩)
theorem zUm (l:List ByteArray)(hl:l.length≤16000000)(h:Tr ABlk) (nx:Nat)(R:AV→Tr ABlk→Nat→Prop)(hR:∀v g ny,aA nx h g→nx≤ny→k7 9 1 nx g ny v (bf l) l.length→R v g ny):aN Tryz.prog cx 41 [oB l] h nx R:=by
 cases l with
 |nil=>
  rw[show oB []=.sl0 from rfl];refine ay.use zG3 ?_;exact hR _ _ _ (aA.refl _ _) (ae _) (.inl ⟨rfl,rfl,rfl⟩)
 |cons f l=>
  rw[show oB (f::l)=.fz 1 false (bf (f::l)) from by simp[oB]];have e:=Jg (f::l);have e1:=Hz (f::l);rw[show bf (f::l)=.bs f::bf l from rfl]at e e1 ⊢;refine zLy false (.bs f) (bf l) (by rw[e];exact e1) (by rw[pH];simp at hl;omega) h nx R fun g q ny h1 h2 h3 h4=>?_;rw[e]at h4;rw[pH];exact hR _ _ _ h1 (by omega) (.inr ⟨q,h2,h3,rfl,h4⟩)
theorem ZM (A B T:List AV)(hA:A.length=23)(hB:B.length=23):(A++(B++T)).take 46=A++B:=by
 rw[← List.append_assoc,List.take_append_of_le_length (by simp;omega),ar (by simp;omega)]
theorem k7.ext {t:TypeId}{es lo n n':Nat}{h g:Tr ABlk}{v:AV}{cs:List AV}{len:Nat}(o:k7 t es lo h n v cs len)(hk:∀k,lo≤k→k<n→g.get k=h.get k)(hn:n≤n'):k7 t es lo g n' v cs len:=by
 rcases o with o |⟨q,q1,q2,q3,q4⟩
 ·exact .inl o
 ·exact .inr ⟨q,q1,by omega,q3,by rw[hk q q1 q2];exact q4⟩
theorem k7.ext2 {t:TypeId}{es lo n n':Nat}{h g:Tr ABlk}{v:AV}{cs:List AV}{len:Nat}(o:k7 t es lo h n v cs len)(hk:∀k,lo≤k→k<n→h.get k=some (bx t cs true es)→g.get k=h.get k)(hn:n≤n'):k7 t es lo g n' v cs len:=by
 rcases o with o |⟨q,q1,q2,q3,q4⟩
 ·exact .inl o
 ·exact .inr ⟨q,q1,by omega,q3,by rw[hk q q1 q2 q4];exact q4⟩
theorem k7.len {t:TypeId}{es lo n:Nat}{h:Tr ABlk}{v:AV}{cs:List AV}{len:Nat}(o:k7 t es lo h n v cs len):∀(e:TypeId) (size b:Nat)(z:Option AV)(fs:List (Nat×Nat×Bool))(g:Tr ABlk) (n:Nat),lP (.mk (.slice e) size b z fs) v g n=.val (.int .i64 (len:Int)) g n:=by
 intro e' size b' z fs g n
 rcases o with⟨h0,_,ha⟩ |⟨q,_,_,ha,_⟩
 ·rw[ha,GL,h0];rfl
 ·rw[ha,Hg]
theorem k7.app {t:TypeId}{es lo n len m:Nat}{h:Tr ABlk}{v:AV}{cs news:List AV}(o:k7 t es lo h n v cs len)(fu:lo≤n)(hm:m≠0)(h1:len * es=cs.length)(h2:len+m≤16777216):
  ∃g,mv true m news t es v h n=.val (.sl n 0 (len+m) 0 true) g (n+1)∧(∀k,k<n→(∀l cp op,v≠.sl k 0 l cp op)→g.get k=h.get k)∧g.get n=some (bx t (cs++news) true es):=by
 rcases o with⟨rfl,rfl,rfl⟩ |⟨q,q1,q2,rfl,q4⟩
 ·refine⟨h.put n (some (bx t news true es)),by rw[zOn (h0:=hm) (h1:=(by omega:m≤16777216)),Nat.zero_add],fun k hk _=>by rw[Tr.get_put,if_neg (by omega)],by rw[Tr.get_put,if_pos rfl,List.nil_append]⟩
 ·refine⟨_,by rw[Pu,q4,Pr _ _ _ _ _ _ _ _ _ h1 h2],fun k hk aQ=>?_,by rw[Tr.get_put,if_pos rfl]⟩;have:k≠q:=fun e=>aQ len 0 true (by rw[e]);rw[Tr.get_put,if_neg (by omega),Tr.get_put,if_neg this]
theorem zM5 {lo n:Nat}{h:Tr ABlk}{v:AV}{ta tb:List ByteArray}(o:k7 9 1 lo h n v (bf ta) ta.length)(fu:lo≤n)(hl:ta.length+tb.length≤16777216):
  ∃v' g n',Lh true (qE 1 (oB tb) h) 9 1 v h n=.val v' g n'∧n≤n'∧(∀k,k<lo→g.get k=h.get k)∧k7 9 1 lo g n' v' (bf (ta++tb)) (ta++tb).length:=by
 cases tb with
 |nil=>
  rw[show oB []=.sl0 from rfl,zUy,W5]
  rcases o with⟨h0,h1,rfl⟩ |⟨q,q1,q2,rfl,q4⟩
  ·refine⟨.sl0,h,n,rfl,ae _,fun _ _=>rfl,.inl ⟨by simpa using h0,by simpa using h1,rfl⟩⟩
  ·refine⟨_,_,_,by rw[show dB ([]:List AV)=true from rfl,Pu,q4,Pr _ _ _ _ _ _ _ _ _ (by rw[pH];omega) (by omega)],Nat.le_succ _,fun k hk=>?_,.inr ⟨n,fu,Nat.lt_succ_self _,by simp,by rw[Tr.get_put,if_pos rfl];simp⟩⟩;rw[Tr.get_put,if_neg (by omega),Tr.get_put,if_neg (by omega)]
 |cons x l=>
  rw[show oB (x::l)=.fz 1 false (bf (x::l)) from by simp[oB],zSd,W5,Jg,Hz,pH];obtain⟨g,g1,g2,g3⟩:=o.app (m:=(x::l).length) (news:=bf (x::l)) fu (by simp) (by rw[pH];omega) hl;refine⟨_,g,_,g1,Nat.le_succ _,fun k hk=>g2 k (by omega) fun l' cp op e=>?_,.inr ⟨n,fu,Nat.lt_succ_self _,by rw[List.length_append],by rw[g3];simp[bf]⟩⟩
  rcases o with⟨_,_,rfl⟩ |⟨q,q1,q2,rfl,q4⟩
  ·cases e
  ·cases e;omega
theorem zFs (A B:List AV)(v:AV)(hA:A.length=23)(hB:B.length=23):(A++(B++[v])).length=47∧(∀hh,(A++(B++[v]))[46]'hh=v)∧∀u,aG (A++(B++[v])) 46 [u]=A++(B++[u]):=by
 have h0:(A++B).length=46:=by simp;omega
 refine⟨by simp;omega,fun hh=>?_,fun u=>?_⟩
 ·simp only[← List.append_assoc];rw[List.getElem_append_right (by omega)];simp[h0]
 ·rw[← List.append_assoc,← List.append_assoc];unfold aG;rw[List.take_append_of_le_length (by omega),ar (by omega),aq (by simp;omega)];simp
theorem Tb {g:Tr ABlk}{F:Nat→Prop}{b:Nat}{s:List ByteArray}{cp esz:Nat}{op opn:Bool}(hF:F b)(hg:g.get b=some (bx 9 (bf s) opn esz)):Fy g F (.sl b 0 s.length cp op) (.fz 1 false (bf s)):=
 .slz b 0 _ cp op 9 _ _ opn esz 1 (bf s) (bf s) (bf s) hF hg (by simp[bf]) (fun j hj=>by rw[Nat.zero_add,fx]) (cW.same _) (RG s) (pH s)
theorem cW.appd {g:Tr ABlk}{F:Nat→Prop}{a b:List AV}(h:cW g F a b):∀l:List AV,cW g F (l++a) (l++b)
 |[]=>h
 |v::l=>.cons _ _ _ _ (.same v) (cW.appd h l)
theorem zUd {g:Tr ABlk}{F:Nat→Prop}{i:Nat}{A B:List AV}{v u:AV}(hF:F i)(hg:g.get i=some (bx 81 (A++(B++[v])) false 0))(hv:Fy g F v u):Fy g F (.ptr i 0) (.ip (A++(B++[u]))):=
 .pin i 0 81 _ _ false 0 (A++(B++[v])) _ hF hg (by simp) (fun j hj=>by rw[Nat.zero_add,fx]) (cW.appd (cW.appd (.cons _ _ _ _ hv .nil) B) A)
theorem Zb:∀l:List Fc,qG 4 (aP l) (l.flatMap Fc.cs)
 |[]=>rfl
 |x::l=>⟨x.cs,l.flatMap Fc.cs,by simp,rfl,by cases x;rfl,.inl rfl,Zb l⟩
theorem WT {g:Tr ABlk}{F:Nat→Prop}{b:Nat}{s:List Fc}{cp esz:Nat}{op opn:Bool}(hF:F b)(hg:g.get b=some (bx 65 (s.flatMap Fc.cs) opn esz)):Fy g F (.sl b 0 s.length cp op) (.fz 4 false (aP s)):=
 .slz b 0 _ cp op 65 _ _ opn esz 4 (s.flatMap Fc.cs) (s.flatMap Fc.cs) (aP s) hF hg (by simp) (fun j hj=>by rw[Nat.zero_add,fx]) (cW.same _) (Zb s) (Sf s)
theorem Zo (A B:List AV){v u:AV}(h:Wk v u):∀l:List AV,fp (l++[v]) (l++[u])
 |[]=>.cons _ _ _ _ h .nil
 |x::l=>.cons _ _ _ _ (.same x) (Zo A B h l)
theorem vh (a:Pv):dB a.cs=true:=by
 rcases a with⟨id,rank,kind,name,value,⟨w1,w2,w3,w4,w5⟩,ex,⟨b1,b2,b3,b4⟩,⟨e1,e2,e3,e4⟩,⟨g1,g2,g3,g4⟩⟩
 rfl
theorem zzv (a:Pv):(a.cs.drop 5).take 5=a.when_.cs:=by
 rcases a with⟨id,rank,kind,name,value,⟨w1,w2,w3,w4,w5⟩,ex,⟨b1,b2,b3,b4⟩,⟨e1,e2,e3,e4⟩,⟨g1,g2,g3,g4⟩⟩
 rfl
theorem WE (A B T:List AV)(hA:A.length=23)(hB:B.length=23) (j:Nat)(hj:j<2):((A++(B++T)).drop (j * 23)).take 23=if j=0 then A else B:=by
 rcases (by omega:j=0∨j=1) with rfl |rfl
 ·simp[hA]
 ·rw[show 1 * 23=A.length by omega,List.drop_left];simp[hB]
theorem GC (w:Bool)(a b:Pv)(d:List Fc)(ha:a.when_.size≤1000000)(hb:b.when_.size≤1000000)(hd:d.length≤1000000)(hs:∀f∈d,f.name.size≤1000000000)
  (hea:a.except.length≤1000000000) (heb:b.except.length≤1000000000) (N3:a.begin_.size≤1000000000∧a.end_.size≤1000000000∧a.again.size≤1000000000) (fe:b.begin_.size≤1000000000∧b.end_.size≤1000000000∧b.again.size≤1000000000):
  ay Tryz.prog cx 12 [.agg a.cs,.agg b.cs,.agg [.fz 4 w (aP d)]] (cG a b d).v:=by
 refine ay.mkW fun h nx R hR=>aV (sz:=132) (rs:=[.cell 6 43,.tmp 7]) aE zUe rfl rfl rfl (by simp) ?_;have mC:=J7 w d (by omega) hs;have MC:=Zs a.when_ (by omega);have MD:=Zs b.when_ (by omega)
 change ay _ _ _ _ (oB (dR a.when_)) at MC
 change ay _ _ _ _ (oB (dR b.when_)) at MD
 have sS:=XF a.when_;have FW:=XF b.when_;have hCa:=W4 w d a.when_ ha (by omega) (by omega);have hCb:=W4 w d b.when_ hb (by omega) (by omega);have fU:=a.cs_len;have eU:=b.cs_len;have EI:=vh a;have Il:=vh b;obtain⟨A,hA⟩:∃A,A=a.cs:=⟨_,rfl⟩;obtain⟨B,hB⟩:∃B,B=b.cs:=⟨_,rfl⟩;rw[← hA]at fU EI ⊢;rw[← hB]at eU Il ⊢;have zj:A.take 23=A:=ar (by omega);have zk:B.take 23=B:=ar (by omega);obtain⟨res,aH⟩:∃r,r=cG a b d:=⟨_,rfl⟩;rw[← aH]at hR;unfold cG at aH;have fT:∀(k e:Int) (g:Tr ABlk) (ny:Nat),aA nx h g→res=⟨k,[],e⟩→R (.tup [.agg [.int .i64 k,.sl0],.int .i64 e]) g ny:=fun k e g ny hE hr=>by
  rw[hr]at hR;exact hR _ _ _ (.tup [.agg [.int .i64 k,.sl0],.int .i64 e]) hE (.tup _ _ (.cons _ _ _ _ (.agg _ _ (.cons _ _ _ _ (.int _ _) (.cons _ _ _ _ .sl0 .nil))) (.cons _ _ _ _ (.int _ _) .nil))) (.tup _ _ (.cons _ _ _ _ (.agg _ _ (.cons _ _ _ _ (.same _) (.cons _ _ _ _ (.sl0 1 false) .nil))) (.cons _ _ _ _ (.same _) .nil)))
 have z01:¬nx=nx+1:=by omega
 have Wr:¬nx=nx+1+1:=by omega
 have Ws:¬nx=nx+1+1+1:=by omega
 have z12:¬nx+1=nx+1+1:=by omega
 have z13:¬nx+1=nx+1+1+1:=by omega
 have z23:¬nx+1+1=nx+1+1+1:=by omega
 simp-implicitDefEqProofs[go_sem];refine ay.use mC ?_;cases kj:eQ d with
 |false=>
  rw[if_pos kj]at aH;simp-implicitDefEqProofs[go_sem,aB,aG];refine fT _ _ _ _ ?_ aH;simp(disch:=omega)only[aL];exact aA.refl _ _
 |true=>
  rw[if_neg (by rw[kj];simp)]at aH;simp-implicitDefEqProofs[go_sem,aB,fU,eU,zj,zk,aG,Wr,Ws];generalize zp:A++_=PQ;have Ii:PQ.length=46:=by rw[← zp];simp[fU,eU]
  have My:PQ.take 23=A:=by rw[← zp];exact WE A B _ fU eU 0 (by omega)
  have tY:(PQ.drop 23).take 23=B:=by rw[← zp];exact WE A B _ fU eU 1 (by omega)
  clear zp;have Tu:(A.drop 5).take 5=a.when_.cs:=by rw[hA];exact zzv a
  have B3:(B.drop 5).take 5=b.when_.cs:=by rw[hB];exact zzv b
  refine bT (fun mm st=>∃tm h' n' j,st=.mk tm h' n' []∧mm=2-j∧j≤2∧tm.get 3=some (.ptr nx 0)∧tm.get 4=some (.ptr (nx+1) 0)∧tm.get 5=some (.ptr (nx+1+1) 0)∧tm.get 6=some (.ptr (nx+1+1+1) 0)∧tm.get 26=some (.sl (nx+1+1+1+1) 0 2 2 false)∧tm.get 27=some (.int .i64 2)∧tm.get 28=some (.int .i64 (j:Int))∧
   h'.get nx=some (bx 30 A false 0)∧h'.get (nx+1)=some (bx 30 B false 0)∧h'.get (nx+1+1)=some (bx 35 [.fz 4 w (aP d)] false 0)∧h'.get (nx+1+1+1)=some (bx 43 [.int .i64 0,.sl0] false 0)∧h'.get (nx+1+1+1+1)=some (bx 30 PQ false 0)∧aA nx h h'∧nx+5≤n'∧RowKit.Hid ((1≤j→k8 d a.when_=0)∧(2≤j→k8 d b.when_=0))) ⟨2,_,_,_,0,rfl,rfl,by omega,?_⟩ ?_
  ·simp-implicitDefEqProofs[go_sem,Wr,Ws];refine⟨fun q=>by omega,?_,Lib.hid trivial⟩;simp(disch:=omega)only[aL];exact aA.refl _ _
  ·rintro mm st ⟨tm,h',n',j,rfl,rfl,hj,t3,t4,t5,t6,t26,t27,t28,g0,g1,g2,g3,g4,hE,dK,hc⟩ J hJ
   refine bt aE _ ?_;have y0:¬nx=n':=by omega
   have y1:¬nx+1=n':=by omega
   have y2:¬nx+1+1=n':=by omega
   have y3:¬nx+1+1+1=n':=by omega
   have y4:¬nx+1+1+1+1=n':=by omega
   rcases (by omega:j=0∨j=1∨j=2) with rfl |rfl |rfl
   ·simp-implicitDefEqProofs[go_sem,t26,t27,t28,g4,Ii,My,fU,EI,aG];refine ik mixed aE eO [] [5,6] [] (by kernel_rfl) ?_;simp-implicitDefEqProofs[go_sem,t5,g2,fU,Tu,y2];refine gR MC ?_;simp-implicitDefEqProofs[go_sem,fg];refine gR hCa ?_
    by_cases hq:k8 d a.when_=0
    ·simp-implicitDefEqProofs[go_sem,t28,hq];refine hJ (2-1) _ (by omega) ⟨_,_,_,1,rfl,rfl,by omega,?_⟩;simp-implicitDefEqProofs[go_sem,t3,t4,t5,t6,t26,t27,g0,g1,g2,g3,g4,y0,y1,y2,y3,y4];refine⟨?_,?_⟩
     ·rfl
     ·refine⟨?_,by omega,Lib.hid hq⟩;simp(disch:=omega)only[aL];exact hE
    ·rw[if_pos hq]at aH;simp-implicitDefEqProofs[go_sem,t6,g3,y3,hq,aG];refine fT _ _ _ _ ?_ aH;simp(disch:=omega)only[aL];exact hE
   ·simp-implicitDefEqProofs[go_sem,t26,t27,t28,g4,Ii,tY,eU,Il,aG];refine ik mixed aE eO [] [5,6] [] (by kernel_rfl) ?_;simp-implicitDefEqProofs[go_sem,t5,g2,eU,B3,y2];refine gR MD ?_;simp-implicitDefEqProofs[go_sem,fg];refine gR hCb ?_
    by_cases hq:k8 d b.when_=0
    ·simp-implicitDefEqProofs[go_sem,t28,hq];refine hJ (2-2) _ (by omega) ⟨_,_,_,2,rfl,rfl,by omega,?_⟩;simp-implicitDefEqProofs[go_sem,t3,t4,t5,t6,t26,t27,g0,g1,g2,g3,g4,y0,y1,y2,y3,y4];refine⟨?_,?_⟩
     ·rfl
     ·refine⟨?_,by omega,Lib.hid ⟨hc.out.1 (by omega),hq⟩⟩;simp(disch:=omega)only[aL];exact hE
    ·rw[if_neg (by simpa using hc.out.1 (by omega)),if_pos hq]at aH;simp-implicitDefEqProofs[go_sem,t6,g3,y3,hq,aG];refine fT _ _ _ _ ?_ aH;simp(disch:=omega)only[aL];exact hE
   ·obtain⟨l4,kI⟩:=hc.out;rw[if_neg (by simpa using l4 (by omega)),if_neg (by simpa using kI (by omega))]at aH;have oZ:∀x∈dR a.when_++dR b.when_,x.size≤1000:=fun x hx=>by
     have key:∀f:Fm,k8 d f=0→∀x∈dR f,x.size≤1000:=fun f h0=>YF [] f (Lp (fun s h=>by have:=Ln h;omega) h0).1 (by intro x hx;cases hx)
     rcases List.mem_append.1 hx with h |h
     ·exact key _ (l4 (by omega)) x h
     ·exact key _ (kI (by omega)) x h
    clear hc l4 kI;simp-implicitDefEqProofs[go_sem,t27,t28];refine Ls mixed aE (fun k=>if k=0 then .agg A else if k=1 then .agg B else if k=2 then .ptr (nx+1+1) 0 else .fz 4 w (aP d)) [(0,44),(1,45),(2,46),(3,47)] [(4,[(2,46),(3,47)]),(5,[]),(6,[(0,44),(1,45)]),(7,[]),(8,[])] (by kernel_rfl) (by decide) ?_;simp-implicitDefEqProofs[go_sem,gU,jF,t3,t4,t5,g0,g1,g2,fU,eU,zj,zk];refine zLe w d (by omega) _ _ _ fun v g ny tT FH hO=>?_;have IJ:v.cells=[v]:=by
     rcases hO with⟨_,_,rfl⟩ |⟨q,_,_,rfl,_⟩ <;> rfl
    have hvo:dB [v]=true:=by
     rcases hO with⟨_,_,rfl⟩ |⟨q,_,_,rfl,_⟩ <;> rfl
    have IK:=IJ;rw[AV.cells.eq_def]at IK;have k0:g.get nx=some (bx 30 A false 0):=by rw[tT _ (by omega)];exact g0
    have k1:g.get (nx+1)=some (bx 30 B false 0):=by rw[tT _ (by omega)];exact g1
    have k2:g.get (nx+1+1)=some (bx 35 [.fz 4 w (aP d)] false 0):=by rw[tT _ (by omega)];exact g2
    have k3:g.get (nx+1+1+1)=some (bx 43 [.int .i64 0,.sl0] false 0):=by rw[tT _ (by omega)];exact g3
    simp-implicitDefEqProofs[go_sem,aB,gU,jF,t3,t4,k0,k1,fU,eU,zj,zk,IK,aG];generalize Iq:Tr.put _ (ny+1) (some (ABlk.map [] 0))=g5;have E5:aA ny g g5:=by
     rw[← Iq];simp(disch:=omega)only[aL];exact aA.refl _ _
    have m0:g5.get ny=some (bx 81 (A++(B++[v])) false 0):=by
     rw[← Iq,Tr.get_put,if_neg (by omega),Tr.get_put,if_pos rfl];simp[fU,eU,aq];rw[ZM _ _ _ fU eU,List.append_assoc]
    have m1:g5.get (ny+1)=some (iK []):=by rw[← Iq,Tr.get_put,if_pos rfl];rfl
    clear Iq;have l0:g5.get nx=some (bx 30 A false 0):=by rw[E5 _ (by omega)];exact k0
    have l1:g5.get (nx+1)=some (bx 30 B false 0):=by rw[E5 _ (by omega)];exact k1
    have l2:g5.get (nx+1+1)=some (bx 35 [.fz 4 w (aP d)] false 0):=by rw[E5 _ (by omega)];exact k2
    have l3:g5.get (nx+1+1+1)=some (bx 43 [.int .i64 0,.sl0] false 0):=by rw[E5 _ (by omega)];exact k3
    have TW:k7 65 4 n' g5 ny v (d.flatMap Fc.cs) d.length:=by
     rcases hO with hO |⟨q,q1,q2,q3,q4⟩
     ·exact .inl hO
     ·exact .inr ⟨q,q1,q2,q3,by rw[E5 q q2];exact q4⟩
    have tV:aA nx h g5:=fun k hk=>by rw[E5 k (by omega),tT k (by omega)];exact hE k hk
    clear hO E5 k0 k1 k2 k3 g0 g1 g2 g3 g4 tT hE;refine Ls mixed aE (fun k=>if k=0 then .ptr nx 5 else if k=1 then .agg a.when_.cs else if k=4 then .ptr (nx+1) 5 else if k=5 then .agg b.when_.cs else .int .i64 0) [(0,53),(1,54),(4,57),(5,58),(9,62)] [(2,[(0,53),(1,54)]),(3,[]),(6,[(4,57),(5,58)]),(7,[]),(8,[])] (by kernel_rfl) (by decide) ?_;simp-implicitDefEqProofs[go_sem,gU,jF,t3,t4,l0,l1,fU,eU,Tu,B3];refine ay.use MC ?_;simp-implicitDefEqProofs[go_sem,aB,gU,jF,t4,l1,eU,B3];refine zUm (dR a.when_) (by omega) _ _ _ fun v6 g6 n6 vu hn6 TX=>?_;have p0:g6.get nx=some (bx 30 A false 0):=by rw[vu _ (by omega)];exact l0
    have p1:g6.get (nx+1)=some (bx 30 B false 0):=by rw[vu _ (by omega)];exact l1
    have p2:g6.get (nx+1+1)=some (bx 35 [.fz 4 w (aP d)] false 0):=by rw[vu _ (by omega)];exact l2
    have p3:g6.get (nx+1+1+1)=some (bx 43 [.int .i64 0,.sl0] false 0):=by rw[vu _ (by omega)];exact l3
    have p4:g6.get ny=some (bx 81 (A++(B++[v])) false 0):=by rw[vu _ (by omega)];exact m0
    have p5:g6.get (ny+1)=some (iK []):=by rw[vu _ (by omega)];exact m1
    have TY:k7 65 4 n' g6 ny v (d.flatMap Fc.cs) d.length:=by
     rcases TW with hO |⟨q,q1,q2,q3,q4⟩
     ·exact .inl hO
     ·exact .inr ⟨q,q1,q2,q3,by rw[vu q (by omega)];exact q4⟩
    have TD:aA nx h g6:=fun k hk=>by rw[vu k (by omega)];exact tV k hk
    clear TW tV vu l0 l1 l2 l3 m0 m1;simp-implicitDefEqProofs[go_sem,aB,gU,jF,t4,p1,eU,B3];refine ay.use MD ?_;obtain⟨v8,g8,n8,e8,hn8,zR,Ig⟩:=zM5 TX (by omega) (tb:=dR b.when_) (by omega);obtain⟨ts,eG⟩:∃ts,ts=dR a.when_++dR b.when_:=⟨_,rfl⟩;rw[← eG]at aH Ig oZ;have TN:=Ig.len;simp-implicitDefEqProofs[go_sem,aB,gU,jF,e8,TN];have TE:aA nx h g8:=fun k hk=>by rw[zR k (by omega)];exact TD k hk
    have r2:g8.get (nx+1+1)=some (bx 35 [.fz 4 w (aP d)] false 0):=by rw[zR _ (by omega)];exact p2
    have r3:g8.get (nx+1+1+1)=some (bx 43 [.int .i64 0,.sl0] false 0):=by rw[zR _ (by omega)];exact p3
    have r4:g8.get ny=some (bx 81 (A++(B++[v])) false 0):=by rw[zR _ (by omega)];exact p4
    have r5:g8.get (ny+1)=some (iK []):=by rw[zR _ (by omega)];exact p5
    have TZ:k7 65 4 n' g8 ny v (d.flatMap Fc.cs) d.length:=TY.ext (fun k h1 h2=>zR k (by omega)) (ae _);clear TY TD p0 p1 p2 p3 p4 p5 TX TN e8;have IH:ts.length≤2000000:=by rw[eG,List.length_append];omega
    obtain⟨L9,v9,Ew,vC,hv9⟩:∃(L9:List Nat) (v9:AV),(∀k,k<ny+1+1→¬k∈L9)∧Fy g8 (fun a=>a∈L9) v8 v9∧(ts≠[]→v9=.fz 1 false (bf ts)):=by
     rcases Ig with⟨h0,_,_⟩ |⟨q,q1,q2,rfl,q4⟩
     ·have:ts=[]:=au h0;exact⟨[],v8,fun _ _=>by simp,.same _,fun h=>absurd this h⟩
     ·exact⟨[q],.fz 1 false (bf ts),fun k hk=>by simp;omega,Tb (by simp) q4,fun _=>rfl⟩
    obtain⟨g9,zI⟩:∃g9,g9=jo g8 L9:=⟨_,rfl⟩;have so:∀k,k<ny+1+1→g9.get k=g8.get k:=fun k hk=>by rw[zI];exact oK (Ew k hk)
    have I2:g9.get (nx+1+1)=some (bx 35 [.fz 4 w (aP d)] false 0):=by rw[so _ (by omega)];exact r2
    have r3':g9.get (nx+1+1+1)=some (bx 43 [.int .i64 0,.sl0] false 0):=by rw[so _ (by omega)];exact r3
    have I3:g9.get ny=some (bx 81 (A++(B++[v])) false 0):=by rw[so _ (by omega)];exact r4
    have r5':g9.get (ny+1)=some (iK []):=by rw[so _ (by omega)];exact r5
    have n9:k7 65 4 n' g9 ny v (d.flatMap Fc.cs) d.length:=TZ.ext (fun k h1 h2=>so k (by omega)) (ae _);have vw:aA nx h g9:=fun k hk=>by rw[so k (by omega)];exact TE k hk
    refine GG (fun a=>a∈L9) (h':=g9) (by rw[zI];exact iy.kill _) (rI.refl.put (k:=60) (by simp[go_sem]) vC) ?_;clear Ig vC zI so Ew r2 r3 r4 r5 TZ TE zR;refine bT (fun mm st=>∃tm h' n1 k seen D vD,st=.mk tm h' n1 []∧mm=ts.length-k∧k≤ts.length∧tm.get 5=some (.ptr (nx+1+1) 0)∧tm.get 6=some (.ptr (nx+1+1+1) 0)∧tm.get 11=some (.ptr ny 0)∧tm.get 12=some (.map (ny+1))∧tm.get 60=some v9∧tm.get 61=some (.int .i64 (ts.length:Int))∧tm.get 62=some (.int .i64 (k:Int))∧
     h'.get (nx+1+1)=some (bx 35 [.fz 4 w (aP d)] false 0)∧h'.get (nx+1+1+1)=some (bx 43 [.int .i64 0,.sl0] false 0)∧h'.get ny=some (bx 81 (A++(B++[vD])) false 0)∧h'.get (ny+1)=some (iK seen)∧k7 65 4 n' h' n1 vD (D.flatMap Fc.cs) D.length∧aA nx h h'∧ny+2≤n1∧D.length≤d.length+k∧(∀f∈D,f.name.size≤1000000000)∧RowKit.Hid (np d ts [] d=np d (ts.drop k) seen D)) ⟨ts.length,_,_,_,0,[],d,v,rfl,by simp,by simp,?_⟩ ?_
    ·simp-implicitDefEqProofs[go_sem,t5,t6,I2,r3',I3,r5'];exact⟨n9.ext (fun _ _ _=>rfl) (by omega),vw,by omega,hs,Lib.hid trivial⟩
    ·rintro mm st ⟨tm,h',n1,k,seen,D,vD,rfl,rfl,hk,t5,t6,t11,t12,t60,t61,t62,g2,g3,g4,g5,xJ,hE,uk,B4,Mf,bF⟩ J hJ
     refine bt aE _ ?_;obtain⟨a1,a2,a3⟩:=zFs A B vD fU eU
     by_cases az:k<ts.length
     ·obtain⟨x,hx⟩:∃x,x=ts[k]:=⟨_,rfl⟩;have Au:=hv9 (by intro e;rw[e]at az;simp at az);have wo:=t60;rw[Au]at wo;have aJ:=bF.out;rw[aj az,← hx,np]at aJ;simp-implicitDefEqProofs[go_sem,t5,wo,t61,t62,g2,az,← hx];refine ay.use (zxo w d x (by omega)) ?_
      by_cases jw:bS (fun f:Fc=>decide (f.name=x)) d<0
      ·have vI:¬0≤bS (fun f:Fc=>decide (f.name=x)) d:=by omega
       rw[if_neg (by simpa using jw)]at aJ;have y1:¬ny=ny+1:=by omega
       have y2:¬nx+1+1=ny+1:=by omega
       have y3:¬nx+1+1+1=ny+1:=by omega
       by_cases l9:x∈seen
       ·rw[if_pos l9]at aJ;obtain⟨j,f1,f2⟩:=Jn 0 l9;rw[Nat.zero_add]at f2;have f3:=Sp f1;simp-implicitDefEqProofs[go_sem,aB,t12,t62,g5,vI,iK,f2,f3,bP];refine hJ (ts.length-(k+1)) _ (by omega) ⟨_,_,_,k+1,seen,D,vD,rfl,rfl,by omega,?_⟩;simp-implicitDefEqProofs (disch:=omega) [go_sem,t5,t6,t11,t12,wo,t61,g2,g3,g4,aY];refine⟨Au.symm,fun q=>by omega,fun q=>by omega,rfl,xJ.ext2 (fun q h1 h2 h3=>by rw[Tr.get_put,if_neg (by intro e;rw[e,g5]at h3;simp[bx,iK]at h3)]) (ae _),?_,uk,by omega,Mf,Lib.hid aJ⟩;simp(disch:=omega)only[aL];exact hE
       ·rw[if_neg l9]at aJ;have f2:rN x seen 0=none:=zzx 0 l9;have IJ:vD.cells=[vD]:=by
         rcases xJ with⟨_,_,rfl⟩ |⟨q,_,_,rfl,_⟩ <;> rfl
        have IK:=IJ;rw[AV.cells.eq_def]at IK;have Mv:=xJ.ext (g:=h'.put n1 (some (bx 65 [.bs x,.int .i64 1,.int .i64 0,.int .i64 1] false 0))) (n':=n1+1) (fun q h1 h2=>by rw[Tr.get_put,if_neg (by omega)]) (by omega);obtain⟨gA,e1,e2,e3⟩:=Mv.app (m:=1) (news:=[.bs x,.int .i64 1,.int .i64 0,.int .i64 1]) (by omega) (by omega) (by rw[zNt]) (by omega);have vT:∀k,k<n1→h'.get k≠some (bx 65 (D.flatMap Fc.cs) true 4)→gA.get k=h'.get k:=fun k h1 h2=>by
         rw[e2 k (by omega) fun l cp op e=>?_,Tr.get_put,if_neg (by omega)]
         rcases xJ with⟨_,_,rfl⟩ |⟨q,_,_,rfl,q4⟩
         ·cases e
         ·cases e;exact h2 q4
        have b2:gA.get (nx+1+1)=some (bx 35 [.fz 4 w (aP d)] false 0):=by
         rw[vT _ (by omega) (by rw[g2];intro e;simp[bx]at e)];exact g2
        have b3:gA.get (nx+1+1+1)=some (bx 43 [.int .i64 0,.sl0] false 0):=by
         rw[vT _ (by omega) (by rw[g3];intro e;simp[bx]at e)];exact g3
        have b4:gA.get ny=some (bx 81 (A++(B++[vD])) false 0):=by
         rw[vT _ (by omega) (by rw[g4];intro e;simp[bx]at e)];exact g4
        have b5:gA.get (ny+1)=some (iK seen):=by
         rw[vT _ (by omega) (by rw[g5];intro e;simp[bx,iK]at e)];exact g5
        simp-implicitDefEqProofs[go_sem,aB,t11,t12,g4,g5,vI,iK,f2,bP,a1,a2,aG];simp-implicitDefEqProofs[go_sem,t12,t62,iK,f2,a1,a3,e1,b4,b5];refine hJ (ts.length-(k+1)) _ (by omega) ⟨_,_,_,k+1,seen++[x],D++[⟨x,1,0,1⟩],.sl (n1+1) 0 (D.length+1) 0 true,rfl,rfl,by omega,?_⟩;have y4:¬nx+1+1=ny:=by omega
        have y5:¬nx+1+1+1=ny:=by omega
        simp-implicitDefEqProofs (disch:=omega) [go_sem,t5,t6,t11,t12,wo,t61,b2,b3,y4,y5,aY];refine⟨Au.symm,fun q=>by omega,?_,.inr ⟨n1+1,by omega,by omega,rfl,?_⟩,?_,by omega,by omega,?_,Lib.hid aJ⟩
        ·unfold iK;have:=Hu x seen 0;rw[Nat.zero_add]at this;rw[← this,List.length_append];rfl
        ·rw[Tr.get_put,if_neg (by omega),Tr.get_put,if_neg (by omega),e3];rfl
        ·intro q hq;rw[Tr.get_put,if_neg (by omega),Tr.get_put,if_neg (by omega),e2 q (by omega) (fun l cp op e=>by
          rcases xJ with⟨_,_,rfl⟩ |⟨q2,q3,_,rfl,_⟩
          ·cases e
          ·cases e;omega),Tr.get_put,if_neg (by omega)]
         exact hE q hq
        ·rintro f (hf |rfl)
         ·exact Mf f hf
         ·have:=oZ x (by rw[hx];exact ai az);show x.size≤_;omega
      ·have vI:0≤bS (fun f:Fc=>decide (f.name=x)) d:=by omega
       rw[if_pos jw]at aJ;rw[aJ]at aH;simp-implicitDefEqProofs[go_sem,aB,t6,g3,vI,aG];refine fT _ _ _ _ ?_ aH;simp(disch:=omega)only[aL];exact hE
     ·have Un:np d ts [] d=some D:=by
       rw[bF.out,aq (by omega)];rfl
      rw[Un]at aH;simp only at aH;unfold lV at aH;have TO:=xJ.len;have y2:¬nx+1+1+1=n1:=by omega
      by_cases Ts:60<D.length
      ·have zi:(60:Int)<(D.length:Int):=by omega
       rw[if_pos Ts]at aH;simp-implicitDefEqProofs[go_sem,t6,t11,t61,t62,g3,g4,az,a1,a2,TO,zi,aG];refine fT _ _ _ _ ?_ aH;simp(disch:=omega)only[aL];exact hE
      ·have zi:¬(60:Int)<(D.length:Int):=by omega
       rw[if_neg Ts]at aH;simp-implicitDefEqProofs[go_sem,t11,t61,t62,g4,az,a1,a2,TO,zi,aG];generalize MA:h'.put n1 (some (bx 86 _ false 0))=j9;have q0:j9.get n1=some (bx 86 [.int .i64 1,.func 43 [.ptr ny 0] [],.int .i64 2,.func 44 [.ptr ny 0] [],.int .i64 3,.func 45 [.ptr ny 0] []] false 0):=by rw[← MA,Tr.get_put,if_pos rfl]
       have q1:∀k,k<n1→j9.get k=h'.get k:=fun k hk=>by rw[← MA,Tr.get_put,if_neg (by omega)]
       clear MA;have q2:j9.get ny=some (bx 81 (A++(B++[vD])) false 0):=by rw[q1 _ (by omega)];exact g4
       obtain⟨LF,vF,Ic,UE,UF⟩:∃(LF:List Nat) (vF:AV),(ny∈LF∧∀k∈LF,n'≤k∧k<n1)∧Fy j9 (fun a=>a∈LF) vD vF∧Wk vF (.fz 4 false (aP D)):=by
        rcases xJ with⟨h0,_,rfl⟩ |⟨q,e1,e2,rfl,e4⟩
        ·have:D=[]:=au h0;subst this;exact⟨[ny],.sl0,⟨by simp,by intro k hk;simp at hk;omega⟩,.same _,.sl0 4 false⟩
        ·exact⟨[ny,q],.fz 4 false (aP D),⟨by simp,by intro k hk;simp at hk;omega⟩,WT (by simp) (by rw[q1 _ e2];exact e4),.same _⟩
       have sg:=zUd (F:=fun a=>a∈LF) Ic.1 q2 UE;obtain⟨PV,Mz⟩:∃PV,PV=A++(B++[vF]):=⟨_,rfl⟩;rw[← Mz]at sg;obtain⟨hC,Is⟩:∃hC,hC=(jo j9 LF).put n1 (some (bx 86 [.int .i64 1,.func 43 [.ip PV] [],.int .i64 2,.func 44 [.ip PV] [],.int .i64 3,.func 45 [.ip PV] []] false 0)):=⟨_,rfl⟩;have Ur:¬n1∈LF:=fun q=>by have:=Ic.2 _ q;omega
       refine GG (fun a=>a∈LF) (h':=hC) ?_ rI.refl ?_
       ·rw[Is];refine iy.put (iy.kill _) Ur q0 (.cells _ _ _ _ _ _ fun a ha v bF=>?_);rw[fx]at bF ⊢;have qM:∀f:FuncId,Fy j9 (fun a=>a∈LF) (.func f [.ptr ny 0] []) (.func f [.ip PV] []):=fun f=>.func f _ _ _ _ (.cons _ _ _ _ sg .nil) .nil
        rcases a with _ |_ |_ |_ |_ |_ |a
        ·simp at bF;subst bF;exact⟨_,rfl,.same _⟩
        ·simp at bF;subst bF;exact⟨_,rfl,qM 43⟩
        ·simp at bF;subst bF;exact⟨_,rfl,.same _⟩
        ·simp at bF;subst bF;exact⟨_,rfl,qM 44⟩
        ·simp at bF;subst bF;exact⟨_,rfl,.same _⟩
        ·simp at bF;subst bF;exact⟨_,rfl,qM 45⟩
        ·simp at bF
       have s0:hC.get n1=some (bx 86 [.int .i64 1,.func 43 [.ip PV] [],.int .i64 2,.func 44 [.ip PV] [],.int .i64 3,.func 45 [.ip PV] []] false 0):=by rw[Is,Tr.get_put,if_pos rfl]
       have s1:∀k,k<n'→hC.get k=h'.get k:=fun k hk=>by
        rw[Is,Tr.get_put,if_neg (by omega),oK (fun q=>by have:=Ic.2 _ q;omega),q1 _ (by omega)]
       have s3:hC.get (nx+1+1+1)=some (bx 43 [.int .i64 0,.sl0] false 0):=by rw[s1 _ (by omega)];exact g3
       have hEC:aA nx h hC:=fun k hk=>by rw[s1 k (by omega)];exact hE k hk
       have TH:=zIg a b vF hea heb;have eC:=zKw a b vF N3 fe;have Mq:ay Tryz.prog cx 45 [.ip PV] (kE a.when_ b.when_ D).v:=by
        have jJ:=zPc false a b D ha hb (by omega) Mf;refine jJ.wk (.cons _ _ _ _ (.ip _ _ ?_) .nil) (.same _);rw[Mz,hA,hB,← List.append_assoc,← List.append_assoc];exact Zo A B UF _
       rw[← hA,← hB,← Mz]at TH eC;clear Is s1 sg UE UF Ic Ur q0 q1 q2 g4 g5 xJ bF Un;refine bT (fun mm st=>∃tm h' n2 j,st=.mk tm h' n2 []∧mm=3-j∧j≤3∧tm.get 6=some (.ptr (nx+1+1+1) 0)∧tm.get 108=some (.sl n1 0 3 3 false)∧tm.get 109=some (.int .i64 3)∧tm.get 110=some (.int .i64 (j:Int))∧
        h'.get (nx+1+1+1)=some (bx 43 [.int .i64 0,.sl0] false 0)∧h'.get n1=some (bx 86 [.int .i64 1,.func 43 [.ip PV] [],.int .i64 2,.func 44 [.ip PV] [],.int .i64 3,.func 45 [.ip PV] []] false 0)∧aA nx h h'∧n1<n2∧RowKit.Hid ((1≤j→ew a b)∧(2≤j→(eH a.begin_ b.begin_ && eH a.end_ b.end_ && eH a.again b.again)=true)∧(3≤j→(kE a.when_ b.when_ D).e=0∧(kE a.when_ b.when_ D).f=false))) ⟨3,_,_,_,0,rfl,rfl,by omega,?_⟩ ?_
       ·simp-implicitDefEqProofs[go_sem,t6,s3,s0];exact⟨hEC,Lib.hid trivial⟩
       ·rintro mm st ⟨tm,h',n2,j,rfl,rfl,hj,t6,t108,t109,t110,g3,g4,hE,oU,hc⟩ J hJ
        refine bt aE _ ?_;obtain⟨l4,kI,ET⟩:=hc.out;have x1:¬n1=n2:=by omega
        have x2:¬nx+1+1+1=n2:=by omega
        rcases (by omega:j=0∨j=1∨j=2∨j=3) with rfl |rfl |rfl |rfl
        ·simp-implicitDefEqProofs[go_sem,t108,t109,t110,g4,aG];refine ay.use TH ?_
         by_cases hf:ew a b
         ·simp-implicitDefEqProofs[go_sem,aB,t110,hf];refine hJ (3-1) _ (by omega) ⟨_,_,_,1,rfl,rfl,by omega,?_⟩;simp-implicitDefEqProofs (disch:=omega) [go_sem,t6,t108,t109,g3,g4,x1,x2,aY];refine⟨?_,Lib.hid hf⟩;simp(disch:=omega)only[aL];exact hE
         ·rw[if_pos hf]at aH;simp-implicitDefEqProofs[go_sem,aB,t6,g3,x2,aG,hf];refine fT _ _ _ _ ?_ aH;simp(disch:=omega)only[aL];exact hE
        ·rw[if_neg (fun q=>q (l4 (by omega)))]at aH;simp-implicitDefEqProofs[go_sem,t108,t109,t110,g4,aG];refine ay.use eC ?_;cases hf:(eH a.begin_ b.begin_ && eH a.end_ b.end_ && eH a.again b.again) with
         |true=>
          simp-implicitDefEqProofs[go_sem,aB,t110];refine hJ (3-2) _ (by omega) ⟨_,_,_,2,rfl,rfl,by omega,?_⟩;simp-implicitDefEqProofs (disch:=omega) [go_sem,t6,t108,t109,g3,g4,x1,x2,aY];refine⟨?_,Lib.hid ⟨l4 (by omega),by simpa using hf⟩⟩;simp(disch:=omega)only[aL];exact hE
         |false=>
          rw[if_pos hf]at aH;simp-implicitDefEqProofs[go_sem,aB,t6,g3,x2,aG];refine fT _ _ _ _ ?_ aH;simp(disch:=omega)only[aL];exact hE
        ·rw[if_neg (fun q=>q (l4 (by omega))),if_neg (by rw[kI (by omega)];simp)]at aH;simp-implicitDefEqProofs[go_sem,t108,t109,t110];have Nk:jE (TI.mk (TypeDesc.slice 86) 1 24 (some AV.sl0) [(0,2,true)]) (AV.sl n1 0 3 3 false) (AV.int IntKind.i64 2) h' n2=.val (.ptr n1 4) h' n2:=rfl;simp-implicitDefEqProofs[go_sem,g4,aG,Nk];refine ay.use Mq ?_;generalize kE a.when_ b.when_ D=CR0 at aH hJ ET;obtain⟨cf,cc,ce⟩:=CR0;simp only[CA.v]at aH ET ⊢
         by_cases he:ce=0
         ·subst he;rw[if_neg (by simp)]at aH;cases cf with
          |true=>
           rw[if_pos rfl]at aH;simp-implicitDefEqProofs[go_sem,aB,t6,g3,x2,aG];rw[aH]at hR;refine hR _ _ _ _ ?_ (.tup _ _ (.cons _ _ _ _ (.agg _ _ (.cons _ _ _ _ (.int _ _) (.cons _ _ _ _ (Fz.same _ (by simp[plain,uX])) .nil))) (.cons _ _ _ _ (.int _ _) .nil))) (.same _);simp(disch:=omega)only[aL];exact hE
          |false=>
           simp-implicitDefEqProofs[go_sem,aB,t110];refine hJ (3-3) _ (by omega) ⟨_,_,_,3,rfl,rfl,by omega,?_⟩;simp-implicitDefEqProofs (disch:=omega) [go_sem,t6,t108,t109,g3,g4,x1,x2,aY];refine⟨?_,Lib.hid ⟨l4 (by omega),by simpa using kI (by omega)⟩⟩;simp(disch:=omega)only[aL];exact hE
         ·rw[if_pos he]at aH;simp-implicitDefEqProofs[go_sem,aB,t6,g3,x2,aG,he];refine fT _ _ _ _ ?_ aH;simp(disch:=omega)only[aL];exact hE
        ·rw[if_neg (fun q=>q (l4 (by omega))),if_neg (by rw[kI (by omega)];simp),if_neg (by rw[(ET (by omega)).1];simp),if_neg (by rw[(ET (by omega)).2];simp)]at aH;simp-implicitDefEqProofs[go_sem,t6,t109,t110,g3,aG];refine fT _ _ _ _ ?_ aH;simp(disch:=omega)only[aL];exact hE
mutual
theorem br.cs_plain:∀f:br,bC f.cs=true
 |.mk o n d k=>by simp[br.cs,bC,plain,zz7 k]
theorem zz7:∀l:List br,bC (mf l)=true
 |[]=>by simp[mf,bC]
 |f::l=>by simp[mf,bC,plain,br.cs_plain f,zz7 l]
end
theorem zzj:∀l:List ByteArray,bC (bf l)=true
 |[]=>rfl
 |x::l=>by rw[show bf (x::l)=.bs x::bf l from rfl];simp[bC,plain,zzj l]
theorem xq:∀l m:List AV,bC l=true→bC m=true→bC (l++m)=true
 |[],m,_,h=>h
 |v::l,m,h,h2=>by
  simp only[List.cons_append,bC,al]at h ⊢;exact⟨h.1,xq l m h.2 h2⟩
theorem Pv.cs_plain (a:Pv):bC a.cs=true:=by
 unfold Pv.cs;refine xq _ _ (by simp[bC,plain]) (xq _ _ (Fm.cs_plain _) (xq _ _ (by simp[bC,plain,zzj]) (xq _ _ (br.cs_plain _) (xq _ _ (br.cs_plain _) (br.cs_plain _)))))
theorem Pz (a:Pv):a.cs[0]?=some (.bs a.id)∧a.cs[1]?=some (.int .i64 a.rank)∧a.cs[2]?=some (.int .i64 a.kind)∧a.cs[3]?=some (.bs a.name)∧a.cs[4]?=some (.int .i64 a.value)∧a.cs[10]?=some (.fz 1 false (bf a.except)):=by
 rcases a with⟨id,rank,kind,name,value,⟨w1,w2,w3,w4,w5⟩,ex,⟨b1,b2,b3,b4⟩,⟨e1,e2,e3,e4⟩,⟨g1,g2,g3,g4⟩⟩
 exact⟨rfl,rfl,rfl,rfl,rfl,rfl⟩
theorem Hy {v u:AV}(h:Wk v u)(m:List AV):∀l:List AV,fp (l++v::m) (l++u::m)
 |[]=>.cons _ _ _ _ h (fp.refl m)
 |x::l=>.cons _ _ _ _ (.same x) (Hy h m l)
end
end Go.Ev
