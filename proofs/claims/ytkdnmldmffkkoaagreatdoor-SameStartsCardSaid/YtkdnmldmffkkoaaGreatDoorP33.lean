/- Texts DG T79. -/
import Derived.Test.YtkdnmldmffkkoaaGreatDoorP29
import Derived.Test.YtkdnmldmffkkoaaGreatDoorP31
import Derived.Test.YtkdnmldmffkkoaaGreatDoorP32
set_option linter.unusedSimpArgs false
set_option linter.unusedVariables false
set_option maxRecDepth 100000
namespace Go.Ev
open Go.Proofs Go.RowKit
noncomputable section
variable {G : Gl} {σ τ υ : Sg} {h g f : Tr ABlk} {nx ny nz : Nat} {w w' x y : World}
theorem Post.adopt (hk:Ok G σ h nx w)(hbe:Below w.heap.size w w'){b:Nat}(hb:w.heap.size≤b) (c:Nat)(B:ABlk)(o:Obj)(ho:w'.heap[b]?=some o)(hB:zao (σ.add nx b c) nx B o):
  Post G σ h nx w (σ.add nx b c) (h.put nx (some B)) (nx+1) w':=by
 have p:=Post.same hk hbe.os hbe.tape hbe.output hbe.size hbe.block
 have hk':=p.ok
 have hle:σ.Le (σ.add nx b c):=Sg.add_le (hk.fresh nx (Nat.le_refl _))
 refine⟨⟨fun a ha=>?_,by have:=hk.le;omega,fun i hi=>?_,fun i j b' B1 B2 h1 h2 h3 h4=>?_,fun i B1 h1=>?_,fun b' C hb'=>?_,fun g cs hg=>(hk.gl g cs hg).mono hle⟩,hle,⟨hbe.os,hbe.tape,hbe.output,hbe.size,fun b' hb' _=>hbe.block b' hb',fun i B1 b' h1 h2=>?_,fun _ _ h=>.inl h⟩,by omega⟩
 ·have:a≠nx:=by have:=hk.le;omega
  simp[Sg.add,this,hk.glob a ha]
 ·have:i≠nx:=by omega
  simp[Sg.add,this,hk.fresh i (by omega)]
 ·rw[Tr.get_put]at h1 h2
  have hnew:∀k B',(if k=nx then some B else h.get k)=some B'→k≠nx→(σ.add nx b c).blk k=some b'→h.get k=some B'∧σ.blk k=some b'∧b'<w.heap.size:=by
   intro k B' hh hne hb2
   rw[if_neg hne]at hh
   have hb':σ.blk k=some b':=by simpa[Sg.add,hne]using hb2
   exact⟨hh,hb',hk.blt hh hb'⟩
  by_cases e1:i=nx <;> by_cases e2:j=nx
  ·omega
  ·obtain⟨_,_,hlt⟩:=hnew j B2 h2 e2 h4
   have:b'=b:=by subst e1;simpa[Sg.add]using h3.symm
   omega
  ·obtain⟨_,_,hlt⟩:=hnew i B1 h1 e1 h3
   have:b'=b:=by subst e2;simpa[Sg.add]using h4.symm
   omega
  ·obtain⟨a1,a2,_⟩:=hnew i B1 h1 e1 h3
   obtain⟨c1,c2,_⟩:=hnew j B2 h2 e2 h4
   exact hk.inj i j b' B1 B2 a1 c1 a2 c2
 ·rw[Tr.get_put]at h1
  by_cases e:i=nx
  ·rw[if_pos e]at h1
   cases h1
   subst e
   exact⟨b,o,by simp[Sg.add],ho,hB⟩
  ·rw[if_neg e]at h1
   obtain⟨b',o',hb',ho',hr⟩:=hk'.blk i B1 h1
   exact⟨b',o',(hle.blk i b' hb').1,ho',hr.mono hle hb'⟩
 ·obtain⟨h1,h2⟩:=hk'.imm b' C hb'
  refine⟨h1,fun i B' hi e=>?_⟩
  rw[Tr.get_put]at hi
  by_cases e':i=nx
  ·subst e'
   have hbb:b'=b:=by simpa[Sg.add]using e.symm
   obtain⟨⟨t,fr,h3⟩,_⟩:=hk.imm b' C hb'
   have:b'<w.heap.size:=zl1 h3
   omega
  ·rw[if_neg e']at hi
   exact h2 i B' hi (by simpa[Sg.add,e']using e)
 ·rw[Tr.get_put]at h1
  by_cases e:i=nx
  ·subst e
   have:b'=b:=by simpa[Sg.add]using h2.symm
   exact .inl (by omega)
  ·rw[if_neg e]at h1
   have hb2:σ.blk i=some b':=by simpa[Sg.add,e]using h2
   exact .inr ⟨i,B1,h1,hb2⟩
theorem zGq {P:Program}{c:Cx}(hc:CxOk P c){fid:FuncId}{fn:Func}(hft:c.ft.get fid=some fn){es e sz:Nat}{full:Bool}{R:AV→Tr ABlk→Nat→Prop}
  (h1:∀(n cp:Nat) (w:World),Calls P fid #[.slice none n cp] w fun e w'=>e=.returned (.slice none 0 0)∧w'=w)
  (h2:∀(a:Addr) (cp:Nat) (w:World),Calls P fid #[.slice (some a) 0 cp] w fun q w'=>∃v',q=.returned v'∧w'.ownsRow w.heap.size e sz v' 0 []∧v'≠.slice none 0 0∧Below w.heap.size w w')
  (hR:R .sl0 h nx) (hR2:R (.sl nx 0 0 0 true) (h.put nx (some (bx e [] true sz))) (nx+1)):za7 P c fid [.fz es full []] h nx R:=by
 intro σ w A hk hA
 simp only[za1,Rel]at hA
 obtain⟨V,L,rfl,⟨a,cap,rfl,_,_,ha,_⟩,rfl⟩:=hA
 refine zni hc hft ?_
 cases a with
 |none=>
  refine(h1 0 cap w).mono ?_
  rintro q w' ⟨rfl,rfl⟩
  exact⟨σ,.sl0,h,nx,by simp only[Rel],.refl hk,hR⟩
 |some a=>
  refine(h2 a cap w).mono ?_
  rintro q w' ⟨v',rfl,ho,hne,hb⟩
  obtain⟨_,⟨e1,_⟩ |⟨g,cp,cur,rfl,hg,hheap,_,_,hcs,_⟩⟩:=ho
  ·exact absurd e1 hne
  ·refine⟨σ.add nx g cp,.sl nx 0 0 0 true,h.put nx (some (bx e [] true sz)),nx+1,?_,Post.adopt hk hb hg cp _ _ hheap ?_,hR2⟩
   ·simp only[Rel]
    exact⟨g,by simp[Sg.add],by simp[Sg.add],by simp⟩
   ·simp only[bx,zao]
    refine⟨cur,(0,0),rfl,fun k hk=>by simp at hk,fun k _=>by omega,?_⟩
    simp[Sg.add,hcs]
end
end Go.Ev
namespace Go.Ev
open Go.Proofs Go.RowKit
noncomputable section
attribute [-go_sem] zaf zac zay zbj
theorem zUe:cx.ft.get 12=some Tryz.f12:=za9 (by decide) (by kernel_rfl)
def zc6 (f:Fm):List ByteArray:=(zbd zei [] f).1
theorem zBx (f:Fm):(zc6 f).length≤f.size:=by
 have:=zvr (mu:=List.length) zCv [] f
 simpa[zc6]using this
theorem zN6 (s:List ByteArray)(f:Fm)(hf:FmG f)(hs:∀x∈s,x.size≤1000):∀x∈(zei s f).1,x.size≤1000:=by
 obtain⟨o,n,c,m,kids⟩:=f
 intro x hx
 simp only[zei]at hx
 split at hx
 ·rcases List.mem_append.1 hx with h |h
  ·exact hs x h
  ·simp at h;rw[h];exact hf.2.2.2.1
 ·exact hs x hx
mutual
theorem zDr:∀(s:List ByteArray)(f:Fm),FmG f→(∀x∈s,x.size≤1000)→∀x∈(zbd zei s f).1,x.size≤1000
 |s,.mk o n c m kids,hf,hs=>by
  have h1:=zN6 s (.mk o n c m kids) hf hs
  rw[zbd]
  split
  ·exact zBj _ kids hf.2.2.2.2.2 h1
  ·exact h1
theorem zBj:∀(s:List ByteArray)(l:List Fm),zdb l→(∀x∈s,x.size≤1000)→∀x∈(zcz zei s l).1,x.size≤1000
 |s,[],_,hs=>by rw[zcz];exact hs
 |s,f::l,hf,hs=>by
  have h1:=zDr s f hf.1 hs
  rw[zcz]
  split
  ·exact zBj _ l hf.2 h1
  ·exact h1
end
def zeu (d:List Fc)(f:Fm):Int:=zhi zh7 (fun s=>decide (0≤zca s (zc6 f))) d f
theorem zAv (u:Bool)(d:List Fc)(f:Fm)(hf:f.size≤1000000)(hd:d.length≤1000000000)(hl:(zc6 f).length≤1000000000):Ret Tryz.prog cx 38 [.agg f.cs,.agg [.fz 4 u (za8 d)],slB (zc6 f)] (.int .i64 (zeu d f)):=by
 unfold slB zeu
 by_cases h:zc6 f=[]
 ·rw[if_pos h,h]
  have:=zAj zh7 u d f hf hd zux
  have e:(fun s=>decide (0≤zca s []))=fun _=>false:=by
   funext s
   simp[zca]
  rw[e]
  exact this
 ·rw[if_neg h]
  exact zJv zh7 u false d (zc6 f) f hf hd hl zux
open Classical in
def zgg (d:List Fc):List ByteArray→List ByteArray→List Fc→Option (List Fc)
 |[],_,D=>some D
 |n::l,seen,D=>if ¬zb8 (fun f:Fc=>decide (f.name=n)) d<0 then none else if n∈seen then zgg d l seen D else zgg d l (seen++[n]) (D++[⟨n,1,0,1⟩])
structure DfR where
 k:Int
 c:List Int
 e:Int
def DfR.v (r:DfR):AV:=.tup [.agg [.int .i64 r.k,.fz 1 false (za5 r.c)],.int .i64 r.e]
open Classical in
def zhj (a b:Pv)(D:List Fc):DfR:=
 if 60<D.length then ⟨0,[],2⟩
 else if ¬zg8 a b then ⟨1,[],0⟩
 else if (zaw a.begin_ b.begin_ && zaw a.end_ b.end_ && zaw a.again b.again)=false then ⟨2,[],0⟩
 else if (zfj a.when_ b.when_ D).e≠0 then ⟨0,[],(zfj a.when_ b.when_ D).e⟩
 else if (zfj a.when_ b.when_ D).f=true then ⟨3,(zfj a.when_ b.when_ D).c,0⟩
 else ⟨0,[],0⟩
def zc9 (a b:Pv)(d:List Fc):DfR:=
 if zc5 d=false then ⟨0,[],1⟩
 else if zeu d a.when_≠0 then ⟨0,[],zeu d a.when_⟩
 else if zeu d b.when_≠0 then ⟨0,[],zeu d b.when_⟩
 else match zgg d (zc6 a.when_++zc6 b.when_) [] d with
  |none=>⟨0,[],1⟩
  |some D=>zhj a b D
def ze4 (t:TypeId) (es lo:Nat)(h:Tr ABlk) (n:Nat)(v:AV)(cells:List AV) (len:Nat):Prop:=(len=0∧cells=[]∧v=.sl0)∨∃q,lo≤q∧q<n∧v=.sl q 0 len 0 true∧h.get q=some (bx t cells true es)
theorem zLu (l:List Fc):(za8 l).flatMap AV.cells=l.flatMap Fc.cs:=by
 induction l with
 |nil=>rfl
 |cons x l ih=>rw[show za8 (x::l)=.agg x.cs::za8 l from rfl,List.flatMap_cons,List.flatMap_cons,ih];rfl
theorem zBn:∀l:List Fc,zba (l.flatMap Fc.cs)=true
 |[]=>rfl
 |x::l=>by
  have h1:=zBn l
  simp[Fc.cs,zba,AV.one]
  exact h1
theorem zNt (l:List Fc):(l.flatMap Fc.cs).length=l.length * 4:=by
 induction l with
 |nil=>rfl
 |cons x l ih=>simp[ih,Fc.cs];omega
theorem zFn (l:List ByteArray):(zaj l).flatMap AV.cells=zaj l:=by
 induction l with
 |nil=>rfl
 |cons x l ih=>rw[show zaj (x::l)=.bs x::zaj l from rfl,List.flatMap_cons,ih];rfl
theorem zs8:∀l:List ByteArray,zba (zaj l)=true
 |[]=>rfl
 |x::l=>zs8 l
theorem zLe (u:Bool)(d:List Fc)(hl:d.length≤16000000)(h:Tr ABlk) (nx:Nat)(R:AV→Tr ABlk→Nat→Prop)(hR:∀v g ny,Ext nx h g→nx≤ny→ze4 65 4 nx g ny v (d.flatMap Fc.cs) d.length→R v g ny):za7 Tryz.prog cx 40 [.fz 4 u (za8 d)] h nx R:=by
 cases d with
 |nil=>
  refine zGq za4 zzt zLr zUl (hR _ _ _ (Ext.refl _ _) (Nat.le_refl _) (.inl ⟨rfl,rfl,rfl⟩)) (hR _ _ _ ?_ (Nat.le_succ _) (.inr ⟨nx,Nat.le_refl _,Nat.lt_succ_self _,rfl,by simp[go_sem]⟩))
  simp(disch:=omega)only[za6]
  exact Ext.refl _ _
 |cons f l=>
  rw[show za8 (f::l)=.agg f.cs::za8 l from rfl]
  have e:=zLu (f::l)
  rw[show za8 (f::l)=.agg f.cs::za8 l from rfl]at e
  refine zNz u (.agg f.cs) (za8 l) (by rw[e];exact zBn _) (by rw[zwh];simp at hl;omega) h nx R fun g q ny h1 h2 h3 h4=>?_
  rw[e]at h4
  rw[zwh]
  exact hR _ _ _ h1 (by omega) (.inr ⟨q,h2,h3,rfl,h4⟩)
theorem zUm (l:List ByteArray)(hl:l.length≤16000000)(h:Tr ABlk) (nx:Nat)(R:AV→Tr ABlk→Nat→Prop)(hR:∀v g ny,Ext nx h g→nx≤ny→ze4 9 1 nx g ny v (zaj l) l.length→R v g ny):za7 Tryz.prog cx 41 [slB l] h nx R:=by
 cases l with
 |nil=>
  rw[show slB []=.sl0 from rfl]
  refine Ret.use zG3 ?_
  exact hR _ _ _ (Ext.refl _ _) (Nat.le_refl _) (.inl ⟨rfl,rfl,rfl⟩)
 |cons f l=>
  rw[show slB (f::l)=.fz 1 false (zaj (f::l)) from by simp[slB]]
  have e:=zFn (f::l)
  have e1:=zs8 (f::l)
  rw[show zaj (f::l)=.bs f::zaj l from rfl]at e e1 ⊢
  refine zLy false (.bs f) (zaj l) (by rw[e];exact e1) (by rw[zl6];simp at hl;omega) h nx R fun g q ny h1 h2 h3 h4=>?_
  rw[e]at h4
  rw[zl6]
  exact hR _ _ _ h1 (by omega) (.inr ⟨q,h2,h3,rfl,h4⟩)
theorem zJb (A B T:List AV)(hA:A.length=23)(hB:B.length=23):(A++(B++T)).take 46=A++B:=by
 rw[← List.append_assoc,List.take_append_of_le_length (by simp;omega),List.take_of_length_le (by simp;omega)]
theorem ze4.ext {t:TypeId}{es lo n n':Nat}{h g:Tr ABlk}{v:AV}{cs:List AV}{len:Nat}(o:ze4 t es lo h n v cs len)(hk:∀k,lo≤k→k<n→g.get k=h.get k)(hn:n≤n'):ze4 t es lo g n' v cs len:=by
 rcases o with o |⟨q,q1,q2,q3,q4⟩
 ·exact .inl o
 ·exact .inr ⟨q,q1,by omega,q3,by rw[hk q q1 q2];exact q4⟩
theorem ze4.ext2 {t:TypeId}{es lo n n':Nat}{h g:Tr ABlk}{v:AV}{cs:List AV}{len:Nat}(o:ze4 t es lo h n v cs len)(hk:∀k,lo≤k→k<n→h.get k=some (bx t cs true es)→g.get k=h.get k)(hn:n≤n'):ze4 t es lo g n' v cs len:=by
 rcases o with o |⟨q,q1,q2,q3,q4⟩
 ·exact .inl o
 ·exact .inr ⟨q,q1,by omega,q3,by rw[hk q q1 q2 q4];exact q4⟩
theorem ze4.len {t:TypeId}{es lo n:Nat}{h:Tr ABlk}{v:AV}{cs:List AV}{len:Nat}(o:ze4 t es lo h n v cs len):∀(e:TypeId) (size b:Nat)(z:Option AV)(fs:List (Nat×Nat×Bool))(g:Tr ABlk) (n:Nat),zdu (.mk (.slice e) size b z fs) v g n=.val (.int .i64 (len:Int)) g n:=by
 intro e' size b' z fs g n
 rcases o with⟨h0,_,ha⟩ |⟨q,_,_,ha,_⟩
 ·rw[ha,znk,h0];rfl
 ·rw[ha,zo8]
theorem ze4.app {t:TypeId}{es lo n len m:Nat}{h:Tr ABlk}{v:AV}{cs news:List AV}(o:ze4 t es lo h n v cs len)(hlo:lo≤n)(hm:m≠0)(h1:len * es=cs.length)(h2:len+m≤16777216):
  ∃g,zf0 true m news t es v h n=.val (.sl n 0 (len+m) 0 true) g (n+1)∧(∀k,k<n→(∀l cp op,v≠.sl k 0 l cp op)→g.get k=h.get k)∧g.get n=some (bx t (cs++news) true es):=by
 rcases o with⟨rfl,rfl,rfl⟩ |⟨q,q1,q2,rfl,q4⟩
 ·refine⟨h.put n (some (bx t news true es)),by rw[zOn (h0:=hm) (h1:=(by omega:m≤16777216)),Nat.zero_add],fun k hk _=>by rw[Tr.get_put,if_neg (by omega)],by rw[Tr.get_put,if_pos rfl,List.nil_append]⟩
 ·refine⟨_,by rw[zDk,q4,zCs _ _ _ _ _ _ _ _ _ h1 h2],fun k hk hne=>?_,by rw[Tr.get_put,if_pos rfl]⟩
  have:k≠q:=fun e=>hne len 0 true (by rw[e])
  rw[Tr.get_put,if_neg (by omega),Tr.get_put,if_neg this]
theorem zM5 {lo n:Nat}{h:Tr ABlk}{v:AV}{ta tb:List ByteArray}(o:ze4 9 1 lo h n v (zaj ta) ta.length)(hlo:lo≤n)(hl:ta.length+tb.length≤16777216):
  ∃v' g n',zrz true (zfo 1 (slB tb) h) 9 1 v h n=.val v' g n'∧n≤n'∧(∀k,k<lo→g.get k=h.get k)∧ze4 9 1 lo g n' v' (zaj (ta++tb)) (ta++tb).length:=by
 cases tb with
 |nil=>
  rw[show slB []=.sl0 from rfl,zUy,zAw]
  rcases o with⟨h0,h1,rfl⟩ |⟨q,q1,q2,rfl,q4⟩
  ·refine⟨.sl0,h,n,rfl,Nat.le_refl _,fun _ _=>rfl,.inl ⟨by simpa using h0,by simpa using h1,rfl⟩⟩
  ·refine⟨_,_,_,by rw[show zba ([]:List AV)=true from rfl,zDk,q4,zCs _ _ _ _ _ _ _ _ _ (by rw[zl6];omega) (by omega)],Nat.le_succ _,fun k hk=>?_,.inr ⟨n,hlo,Nat.lt_succ_self _,by simp,by rw[Tr.get_put,if_pos rfl];simp⟩⟩
   rw[Tr.get_put,if_neg (by omega),Tr.get_put,if_neg (by omega)]
 |cons x l=>
  rw[show slB (x::l)=.fz 1 false (zaj (x::l)) from by simp[slB],zSd,zAw,zFn,zs8,zl6]
  obtain⟨g,g1,g2,g3⟩:=o.app (m:=(x::l).length) (news:=zaj (x::l)) hlo (by simp) (by rw[zl6];omega) hl
  refine⟨_,g,_,g1,Nat.le_succ _,fun k hk=>g2 k (by omega) fun l' cp op e=>?_,.inr ⟨n,hlo,Nat.lt_succ_self _,by rw[List.length_append],by rw[g3];simp[zaj]⟩⟩
  rcases o with⟨_,_,rfl⟩ |⟨q,q1,q2,rfl,q4⟩
  ·cases e
  ·cases e;omega
theorem zFs (A B:List AV)(v:AV)(hA:A.length=23)(hB:B.length=23):(A++(B++[v])).length=47∧(∀hh,(A++(B++[v]))[46]'hh=v)∧∀u,za3 (A++(B++[v])) 46 [u]=A++(B++[u]):=by
 have h0:(A++B).length=46:=by simp;omega
 refine⟨by simp;omega,fun hh=>?_,fun u=>?_⟩
 ·simp only[← List.append_assoc]
  rw[List.getElem_append_right (by omega)]
  simp[h0]
 ·rw[← List.append_assoc,← List.append_assoc]
  unfold za3
  rw[List.take_append_of_le_length (by omega),List.take_of_length_le (by omega),List.drop_of_length_le (by simp;omega)]
  simp
theorem fyB {g:Tr ABlk}{F:Nat→Prop}{b:Nat}{s:List ByteArray}{cp esz:Nat}{op opn:Bool}(hF:F b)(hg:g.get b=some (bx 9 (zaj s) opn esz)):Fy g F (.sl b 0 s.length cp op) (.fz 1 false (zaj s)):=
 .slz b 0 _ cp op 9 _ _ opn esz 1 (zaj s) (zaj s) (zaj s) hF hg (by simp[zaj]) (fun j hj=>by rw[Nat.zero_add,zbt]) (FyL.same _) (zvv s) (zl6 s)
theorem FyL.appd {g:Tr ABlk}{F:Nat→Prop}{a b:List AV}(h:FyL g F a b):∀l:List AV,FyL g F (l++a) (l++b)
 |[]=>h
 |v::l=>.cons _ _ _ _ (.same v) (FyL.appd h l)
theorem zUd {g:Tr ABlk}{F:Nat→Prop}{i:Nat}{A B:List AV}{v u:AV}(hF:F i)(hg:g.get i=some (bx 81 (A++(B++[v])) false 0))(hv:Fy g F v u):Fy g F (.ptr i 0) (.ip (A++(B++[u]))):=
 .pin i 0 81 _ _ false 0 (A++(B++[v])) _ hF hg (by simp) (fun j hj=>by rw[Nat.zero_add,zbt]) (FyL.appd (FyL.appd (.cons _ _ _ _ hv .nil) B) A)
theorem zEo:∀l:List Fc,zfr 4 (za8 l) (l.flatMap Fc.cs)
 |[]=>rfl
 |x::l=>⟨x.cs,l.flatMap Fc.cs,by simp,rfl,by cases x;rfl,.inl rfl,zEo l⟩
theorem zAm {g:Tr ABlk}{F:Nat→Prop}{b:Nat}{s:List Fc}{cp esz:Nat}{op opn:Bool}(hF:F b)(hg:g.get b=some (bx 65 (s.flatMap Fc.cs) opn esz)):Fy g F (.sl b 0 s.length cp op) (.fz 4 false (za8 s)):=
 .slz b 0 _ cp op 65 _ _ opn esz 4 (s.flatMap Fc.cs) (s.flatMap Fc.cs) (za8 s) hF hg (by simp) (fun j hj=>by rw[Nat.zero_add,zbt]) (FyL.same _) (zEo s) (zwh s)
theorem zF2 (A B:List AV){v u:AV}(h:Wk v u):∀l:List AV,WkL (l++[v]) (l++[u])
 |[]=>.cons _ _ _ _ h .nil
 |x::l=>.cons _ _ _ _ (.same x) (zF2 A B h l)
theorem zih (a:Pv):zba a.cs=true:=by
 rcases a with⟨id,rank,kind,name,value,⟨w1,w2,w3,w4,w5⟩,ex,⟨b1,b2,b3,b4⟩,⟨e1,e2,e3,e4⟩,⟨g1,g2,g3,g4⟩⟩
 rfl
theorem zzv (a:Pv):(a.cs.drop 5).take 5=a.when_.cs:=by
 rcases a with⟨id,rank,kind,name,value,⟨w1,w2,w3,w4,w5⟩,ex,⟨b1,b2,b3,b4⟩,⟨e1,e2,e3,e4⟩,⟨g1,g2,g3,g4⟩⟩
 rfl
theorem zAb (A B T:List AV)(hA:A.length=23)(hB:B.length=23) (j:Nat)(hj:j<2):((A++(B++T)).drop (j * 23)).take 23=if j=0 then A else B:=by
 rcases (by omega:j=0∨j=1) with rfl |rfl
 ·simp[hA]
 ·rw[show 1 * 23=A.length by omega,List.drop_left]
  simp[hB]
set_option maxHeartbeats 8000000 in
theorem znc (w:Bool)(a b:Pv)(d:List Fc)(ha:a.when_.size≤1000000)(hb:b.when_.size≤1000000)(hd:d.length≤1000000)(hs:∀f∈d,f.name.size≤1000000000)
  (hea:a.except.length≤1000000000) (heb:b.except.length≤1000000000) (hsa:a.begin_.size≤1000000000∧a.end_.size≤1000000000∧a.again.size≤1000000000) (hsb:b.begin_.size≤1000000000∧b.end_.size≤1000000000∧b.again.size≤1000000000):
  Ret Tryz.prog cx 12 [.agg a.cs,.agg b.cs,.agg [.fz 4 w (za8 d)]] (zc9 a b d).v:=by
 refine Ret.mkW fun h nx R hR=>zaa (sz:=132) (rs:=[.cell 6 43,.tmp 7]) za4 zUe rfl rfl rfl (by simp) ?_
 have hVal:=zq1 w d (by omega) hs
 have hTa:=zF6 a.when_ (by omega)
 have hTb:=zF6 b.when_ (by omega)
 change Ret _ _ _ _ (slB (zc6 a.when_)) at hTa
 change Ret _ _ _ _ (slB (zc6 b.when_)) at hTb
 have hta:=zBx a.when_
 have htb:=zBx b.when_
 have hCa:=zAv w d a.when_ ha (by omega) (by omega)
 have hCb:=zAv w d b.when_ hb (by omega) (by omega)
 have hal:=a.cs_len
 have hbl:=b.cs_len
 have hao:=zih a
 have hbo:=zih b
 obtain⟨A,hA⟩:∃A,A=a.cs:=⟨_,rfl⟩
 obtain⟨B,hB⟩:∃B,B=b.cs:=⟨_,rfl⟩
 rw[← hA]at hal hao ⊢
 rw[← hB]at hbl hbo ⊢
 have hAt:A.take 23=A:=List.take_of_length_le (by omega)
 have hBt:B.take 23=B:=List.take_of_length_le (by omega)
 obtain⟨res,hres⟩:∃r,r=zc9 a b d:=⟨_,rfl⟩
 rw[← hres]at hR
 unfold zc9 at hres
 have hNo:∀(k e:Int) (g:Tr ABlk) (ny:Nat),Ext nx h g→res=⟨k,[],e⟩→R (.tup [.agg [.int .i64 k,.sl0],.int .i64 e]) g ny:=fun k e g ny hE hr=>by
  rw[hr]at hR
  exact hR _ _ _ (.tup [.agg [.int .i64 k,.sl0],.int .i64 e]) hE (.tup _ _ (.cons _ _ _ _ (.agg _ _ (.cons _ _ _ _ (.int _ _) (.cons _ _ _ _ .sl0 .nil))) (.cons _ _ _ _ (.int _ _) .nil))) (.tup _ _ (.cons _ _ _ _ (.agg _ _ (.cons _ _ _ _ (.same _) (.cons _ _ _ _ (.sl0 1 false) .nil))) (.cons _ _ _ _ (.same _) .nil)))
 have z01:¬nx=nx+1:=by omega
 have z02:¬nx=nx+1+1:=by omega
 have z03:¬nx=nx+1+1+1:=by omega
 have z12:¬nx+1=nx+1+1:=by omega
 have z13:¬nx+1=nx+1+1+1:=by omega
 have z23:¬nx+1+1=nx+1+1+1:=by omega
 simp-implicitDefEqProofs[go_sem,hal,hbl,hAt,hBt,za3,z01,z02,z03,z12,z13,z23]
 refine Ret.use hVal ?_
 cases hvb:zc5 d with
 |false=>
  rw[if_pos hvb]at hres
  simp-implicitDefEqProofs[go_sem,za0,za3,z01,z02,z03,z12,z13,z23]
  refine hNo _ _ _ _ ?_ hres
  simp(disch:=omega)only[za6]
  exact Ext.refl _ _
 |true=>
  rw[if_neg (by rw[hvb];simp)]at hres
  simp-implicitDefEqProofs[go_sem,za0,hal,hbl,hAt,hBt,za3,z01,z02,z03,z12,z13,z23]
  generalize hPQ:A++_=PQ
  have hPl:PQ.length=46:=by rw[← hPQ];simp[hal,hbl]
  have hP0:PQ.take 23=A:=by rw[← hPQ];exact zAb A B _ hal hbl 0 (by omega)
  have hP1:(PQ.drop 23).take 23=B:=by rw[← hPQ];exact zAb A B _ hal hbl 1 (by omega)
  clear hPQ
  have hA5:(A.drop 5).take 5=a.when_.cs:=by rw[hA];exact zzv a
  have hB5:(B.drop 5).take 5=b.when_.cs:=by rw[hB];exact zzv b
  refine zap (fun mm st=>∃tm h' n' j,st=.mk tm h' n' []∧mm=2-j∧j≤2∧tm.get 3=some (.ptr nx 0)∧tm.get 4=some (.ptr (nx+1) 0)∧tm.get 5=some (.ptr (nx+1+1) 0)∧tm.get 6=some (.ptr (nx+1+1+1) 0)∧tm.get 26=some (.sl (nx+1+1+1+1) 0 2 2 false)∧tm.get 27=some (.int .i64 2)∧tm.get 28=some (.int .i64 (j:Int))∧
   h'.get nx=some (bx 30 A false 0)∧h'.get (nx+1)=some (bx 30 B false 0)∧h'.get (nx+1+1)=some (bx 35 [.fz 4 w (za8 d)] false 0)∧h'.get (nx+1+1+1)=some (bx 43 [.int .i64 0,.sl0] false 0)∧h'.get (nx+1+1+1+1)=some (bx 30 PQ false 0)∧Ext nx h h'∧nx+5≤n'∧RowKit.Hid ((1≤j→zeu d a.when_=0)∧(2≤j→zeu d b.when_=0))) ⟨2,_,_,_,0,rfl,rfl,by omega,?_⟩ ?_
  ·simp-implicitDefEqProofs[go_sem,z01,z02,z03,z12,z13,z23]
   refine⟨fun q=>by omega,?_,Lib.hid trivial⟩
   simp(disch:=omega)only[za6]
   exact Ext.refl _ _
  ·rintro mm st ⟨tm,h',n',j,rfl,rfl,hj,t3,t4,t5,t6,t26,t27,t28,g0,g1,g2,g3,g4,hE,hn',hc⟩ J hJ
   refine zag za4 _ ?_
   have y0:¬nx=n':=by omega
   have y1:¬nx+1=n':=by omega
   have y2:¬nx+1+1=n':=by omega
   have y3:¬nx+1+1+1=n':=by omega
   have y4:¬nx+1+1+1+1=n':=by omega
   rcases (by omega:j=0∨j=1∨j=2) with rfl |rfl |rfl
   ·simp-implicitDefEqProofs[go_sem,t3,t4,t5,t6,t26,t27,t28,g0,g1,g2,g3,g4,hPl,hP0,hal,hao,hAt,za3,y0,y1,y2,y3,y4]
    refine zbq mixed za4 zbe [] [5,6] [] (by kernel_rfl) ?_
    simp-implicitDefEqProofs[go_sem,t3,t4,t5,t6,g0,g1,g2,g3,g4,hal,hA5,y0,y1,y2,y3,y4]
    refine zbm hTa ?_
    simp-implicitDefEqProofs[go_sem,zas,t3,t4,t5,t6,g0,g1,g2,g3,g4,hal,hA5,y0,y1,y2,y3,y4]
    refine zbm hCa ?_
    by_cases hq:zeu d a.when_=0
    ·simp-implicitDefEqProofs[go_sem,zas,t3,t4,t5,t6,t26,t27,t28,hq]
     refine hJ (2-1) _ (by omega) ⟨_,_,_,1,rfl,rfl,by omega,?_⟩
     simp-implicitDefEqProofs[go_sem,t3,t4,t5,t6,t26,t27,t28,g0,g1,g2,g3,g4,y0,y1,y2,y3,y4]
     refine⟨?_,?_⟩
     ·rfl
     ·refine⟨?_,by omega,Lib.hid hq⟩
      simp(disch:=omega)only[za6]
      exact hE
    ·rw[if_pos hq]at hres
     simp-implicitDefEqProofs[go_sem,zas,t3,t4,t5,t6,g3,y3,hq,za3]
     refine hNo _ _ _ _ ?_ hres
     simp(disch:=omega)only[za6]
     exact hE
   ·simp-implicitDefEqProofs[go_sem,t3,t4,t5,t6,t26,t27,t28,g0,g1,g2,g3,g4,hPl,hP1,hbl,hbo,hBt,za3,y0,y1,y2,y3,y4]
    refine zbq mixed za4 zbe [] [5,6] [] (by kernel_rfl) ?_
    simp-implicitDefEqProofs[go_sem,t3,t4,t5,t6,g0,g1,g2,g3,g4,hbl,hB5,y0,y1,y2,y3,y4]
    refine zbm hTb ?_
    simp-implicitDefEqProofs[go_sem,zas,t3,t4,t5,t6,g0,g1,g2,g3,g4,hbl,hB5,y0,y1,y2,y3,y4]
    refine zbm hCb ?_
    by_cases hq:zeu d b.when_=0
    ·simp-implicitDefEqProofs[go_sem,zas,t3,t4,t5,t6,t26,t27,t28,hq]
     refine hJ (2-2) _ (by omega) ⟨_,_,_,2,rfl,rfl,by omega,?_⟩
     simp-implicitDefEqProofs[go_sem,t3,t4,t5,t6,t26,t27,t28,g0,g1,g2,g3,g4,y0,y1,y2,y3,y4]
     refine⟨?_,?_⟩
     ·rfl
     ·refine⟨?_,by omega,Lib.hid ⟨hc.out.1 (by omega),hq⟩⟩
      simp(disch:=omega)only[za6]
      exact hE
    ·rw[if_neg (by simpa using hc.out.1 (by omega)),if_pos hq]at hres
     simp-implicitDefEqProofs[go_sem,zas,t3,t4,t5,t6,g3,y3,hq,za3]
     refine hNo _ _ _ _ ?_ hres
     simp(disch:=omega)only[za6]
     exact hE
   ·obtain⟨hc1,hc2⟩:=hc.out
    rw[if_neg (by simpa using hc1 (by omega)),if_neg (by simpa using hc2 (by omega))]at hres
    have hzs:∀x∈zc6 a.when_++zc6 b.when_,x.size≤1000:=fun x hx=>by
     have key:∀f:Fm,zeu d f=0→∀x∈zc6 f,x.size≤1000:=fun f h0=>zDr [] f (ztm (fun s h=>by have:=zsm h;omega) h0).1 (by intro x hx;cases hx)
     rcases List.mem_append.1 hx with h |h
     ·exact key _ (hc1 (by omega)) x h
     ·exact key _ (hc2 (by omega)) x h
    clear hc hc1 hc2
    simp-implicitDefEqProofs[go_sem,t3,t4,t5,t6,t26,t27,t28]
    refine zzr mixed za4 (fun k=>if k=0 then .agg A else if k=1 then .agg B else if k=2 then .ptr (nx+1+1) 0 else .fz 4 w (za8 d)) [(0,44),(1,45),(2,46),(3,47)] [(4,[(2,46),(3,47)]),(5,[]),(6,[(0,44),(1,45)]),(7,[]),(8,[])] (by kernel_rfl) (by decide) ?_
    simp-implicitDefEqProofs[go_sem,zcp,zdp,t3,t4,t5,t6,t26,t27,t28,g0,g1,g2,g3,hal,hbl,hAt,hBt]
    refine zLe w d (by omega) _ _ _ fun v g ny hE1 hny hO=>?_
    have hvc:v.cells=[v]:=by
     rcases hO with⟨_,_,rfl⟩ |⟨q,_,_,rfl,_⟩ <;> rfl
    have hvo:zba [v]=true:=by
     rcases hO with⟨_,_,rfl⟩ |⟨q,_,_,rfl,_⟩ <;> rfl
    have hvm:=hvc
    rw[AV.cells.eq_def]at hvm
    have k0:g.get nx=some (bx 30 A false 0):=by rw[hE1 _ (by omega)];exact g0
    have k1:g.get (nx+1)=some (bx 30 B false 0):=by rw[hE1 _ (by omega)];exact g1
    have k2:g.get (nx+1+1)=some (bx 35 [.fz 4 w (za8 d)] false 0):=by rw[hE1 _ (by omega)];exact g2
    have k3:g.get (nx+1+1+1)=some (bx 43 [.int .i64 0,.sl0] false 0):=by rw[hE1 _ (by omega)];exact g3
    simp-implicitDefEqProofs[go_sem,za0,zcp,zdp,t3,t4,t5,t6,k0,k1,k2,k3,hal,hbl,hAt,hBt,hvm,hvo,za3]
    generalize hg5:Tr.put _ (ny+1) (some (ABlk.map [] 0))=g5
    have E5:Ext ny g g5:=by
     rw[← hg5]
     simp(disch:=omega)only[za6]
     exact Ext.refl _ _
    have m0:g5.get ny=some (bx 81 (A++(B++[v])) false 0):=by
     rw[← hg5,Tr.get_put,if_neg (by omega),Tr.get_put,if_pos rfl]
     simp[hal,hbl,List.take_of_length_le,List.drop_of_length_le]
     rw[zJb _ _ _ hal hbl,List.append_assoc]
    have m1:g5.get (ny+1)=some (zck []):=by rw[← hg5,Tr.get_put,if_pos rfl];rfl
    clear hg5
    have l0:g5.get nx=some (bx 30 A false 0):=by rw[E5 _ (by omega)];exact k0
    have l1:g5.get (nx+1)=some (bx 30 B false 0):=by rw[E5 _ (by omega)];exact k1
    have l2:g5.get (nx+1+1)=some (bx 35 [.fz 4 w (za8 d)] false 0):=by rw[E5 _ (by omega)];exact k2
    have l3:g5.get (nx+1+1+1)=some (bx 43 [.int .i64 0,.sl0] false 0):=by rw[E5 _ (by omega)];exact k3
    have hO5:ze4 65 4 n' g5 ny v (d.flatMap Fc.cs) d.length:=by
     rcases hO with hO |⟨q,q1,q2,q3,q4⟩
     ·exact .inl hO
     ·exact .inr ⟨q,q1,q2,q3,by rw[E5 q q2];exact q4⟩
    have hE5:Ext nx h g5:=fun k hk=>by rw[E5 k (by omega),hE1 k (by omega)];exact hE k hk
    clear hO E5 k0 k1 k2 k3 g0 g1 g2 g3 g4 hE1 hE
    refine zzr mixed za4 (fun k=>if k=0 then .ptr nx 5 else if k=1 then .agg a.when_.cs else if k=4 then .ptr (nx+1) 5 else if k=5 then .agg b.when_.cs else .int .i64 0) [(0,53),(1,54),(4,57),(5,58),(9,62)] [(2,[(0,53),(1,54)]),(3,[]),(6,[(4,57),(5,58)]),(7,[]),(8,[])] (by kernel_rfl) (by decide) ?_
    simp-implicitDefEqProofs[go_sem,zcp,zdp,t3,t4,t5,t6,l0,l1,l2,l3,hal,hbl,hA5,hB5]
    refine Ret.use hTa ?_
    simp-implicitDefEqProofs[go_sem,za0,zcp,zdp,t3,t4,t5,t6,l0,l1,l2,l3,hal,hbl,hA5,hB5]
    refine zUm (zc6 a.when_) (by omega) _ _ _ fun v6 g6 n6 hE6 hn6 hO6=>?_
    have p0:g6.get nx=some (bx 30 A false 0):=by rw[hE6 _ (by omega)];exact l0
    have p1:g6.get (nx+1)=some (bx 30 B false 0):=by rw[hE6 _ (by omega)];exact l1
    have p2:g6.get (nx+1+1)=some (bx 35 [.fz 4 w (za8 d)] false 0):=by rw[hE6 _ (by omega)];exact l2
    have p3:g6.get (nx+1+1+1)=some (bx 43 [.int .i64 0,.sl0] false 0):=by rw[hE6 _ (by omega)];exact l3
    have p4:g6.get ny=some (bx 81 (A++(B++[v])) false 0):=by rw[hE6 _ (by omega)];exact m0
    have p5:g6.get (ny+1)=some (zck []):=by rw[hE6 _ (by omega)];exact m1
    have hO7:ze4 65 4 n' g6 ny v (d.flatMap Fc.cs) d.length:=by
     rcases hO5 with hO |⟨q,q1,q2,q3,q4⟩
     ·exact .inl hO
     ·exact .inr ⟨q,q1,q2,q3,by rw[hE6 q (by omega)];exact q4⟩
    have hE7:Ext nx h g6:=fun k hk=>by rw[hE6 k (by omega)];exact hE5 k hk
    clear hO5 hE5 hE6 l0 l1 l2 l3 m0 m1
    simp-implicitDefEqProofs[go_sem,za0,zcp,zdp,t3,t4,t5,t6,p0,p1,p2,p3,hal,hbl,hA5,hB5]
    refine Ret.use hTb ?_
    obtain⟨v8,g8,n8,e8,hn8,hk8,hO8⟩:=zM5 hO6 (by omega) (tb:=zc6 b.when_) (by omega)
    obtain⟨ts,hts⟩:∃ts,ts=zc6 a.when_++zc6 b.when_:=⟨_,rfl⟩
    rw[← hts]at hres hO8 hzs
    have hL8:=hO8.len
    simp-implicitDefEqProofs[go_sem,za0,zcp,zdp,t3,t4,t5,t6,p0,p1,p2,p3,hal,hbl,hA5,hB5,e8,hL8]
    have hE8:Ext nx h g8:=fun k hk=>by rw[hk8 k (by omega)];exact hE7 k hk
    have r2:g8.get (nx+1+1)=some (bx 35 [.fz 4 w (za8 d)] false 0):=by rw[hk8 _ (by omega)];exact p2
    have r3:g8.get (nx+1+1+1)=some (bx 43 [.int .i64 0,.sl0] false 0):=by rw[hk8 _ (by omega)];exact p3
    have r4:g8.get ny=some (bx 81 (A++(B++[v])) false 0):=by rw[hk8 _ (by omega)];exact p4
    have r5:g8.get (ny+1)=some (zck []):=by rw[hk8 _ (by omega)];exact p5
    have hO9:ze4 65 4 n' g8 ny v (d.flatMap Fc.cs) d.length:=hO7.ext (fun k h1 h2=>hk8 k (by omega)) (Nat.le_refl _)
    clear hO7 hE7 p0 p1 p2 p3 p4 p5 hO6 hL8 e8
    have htl:ts.length≤2000000:=by rw[hts,List.length_append];omega
    obtain⟨L9,v9,hL9,hfy,hv9⟩:∃(L9:List Nat) (v9:AV),(∀k,k<ny+1+1→¬k∈L9)∧Fy g8 (fun a=>a∈L9) v8 v9∧(ts≠[]→v9=.fz 1 false (zaj ts)):=by
     rcases hO8 with⟨h0,_,_⟩ |⟨q,q1,q2,rfl,q4⟩
     ·have:ts=[]:=List.eq_nil_of_length_eq_zero h0
      exact⟨[],v8,fun _ _=>by simp,.same _,fun h=>absurd this h⟩
     ·exact⟨[q],.fz 1 false (zaj ts),fun k hk=>by simp;omega,fyB (by simp) q4,fun _=>rfl⟩
    obtain⟨g9,hg9⟩:∃g9,g9=zdd g8 L9:=⟨_,rfl⟩
    have hk9:∀k,k<ny+1+1→g9.get k=g8.get k:=fun k hk=>by rw[hg9];exact zfa (hL9 k hk)
    have r2':g9.get (nx+1+1)=some (bx 35 [.fz 4 w (za8 d)] false 0):=by rw[hk9 _ (by omega)];exact r2
    have r3':g9.get (nx+1+1+1)=some (bx 43 [.int .i64 0,.sl0] false 0):=by rw[hk9 _ (by omega)];exact r3
    have r4':g9.get ny=some (bx 81 (A++(B++[v])) false 0):=by rw[hk9 _ (by omega)];exact r4
    have r5':g9.get (ny+1)=some (zck []):=by rw[hk9 _ (by omega)];exact r5
    have hO10:ze4 65 4 n' g9 ny v (d.flatMap Fc.cs) d.length:=hO9.ext (fun k h1 h2=>hk9 k (by omega)) (Nat.le_refl _)
    have hE9:Ext nx h g9:=fun k hk=>by rw[hk9 k (by omega)];exact hE8 k hk
    refine znf (fun a=>a∈L9) (h':=g9) (by rw[hg9];exact FyH.kill _) (FyT.refl.put (k:=60) (by simp[go_sem]) hfy) ?_
    clear hO8 hfy hg9 hk9 hL9 r2 r3 r4 r5 hO9 hE8 hk8
    refine zap (fun mm st=>∃tm h' n1 k seen D vD,st=.mk tm h' n1 []∧mm=ts.length-k∧k≤ts.length∧tm.get 5=some (.ptr (nx+1+1) 0)∧tm.get 6=some (.ptr (nx+1+1+1) 0)∧tm.get 11=some (.ptr ny 0)∧tm.get 12=some (.map (ny+1))∧tm.get 60=some v9∧tm.get 61=some (.int .i64 (ts.length:Int))∧tm.get 62=some (.int .i64 (k:Int))∧
     h'.get (nx+1+1)=some (bx 35 [.fz 4 w (za8 d)] false 0)∧h'.get (nx+1+1+1)=some (bx 43 [.int .i64 0,.sl0] false 0)∧h'.get ny=some (bx 81 (A++(B++[vD])) false 0)∧h'.get (ny+1)=some (zck seen)∧ze4 65 4 n' h' n1 vD (D.flatMap Fc.cs) D.length∧Ext nx h h'∧ny+2≤n1∧D.length≤d.length+k∧(∀f∈D,f.name.size≤1000000000)∧RowKit.Hid (zgg d ts [] d=zgg d (ts.drop k) seen D)) ⟨ts.length,_,_,_,0,[],d,v,rfl,by simp,by simp,?_⟩ ?_
    ·simp-implicitDefEqProofs[go_sem,t5,t6,r2',r3',r4',r5']
     exact⟨hO10.ext (fun _ _ _=>rfl) (by omega),hE9,by omega,hs,Lib.hid trivial⟩
    ·rintro mm st ⟨tm,h',n1,k,seen,D,vD,rfl,rfl,hk,t5,t6,t11,t12,t60,t61,t62,g2,g3,g4,g5,hOD,hE,hn1,hDl,hDs,hv'⟩ J hJ
     refine zag za4 _ ?_
     obtain⟨a1,a2,a3⟩:=zFs A B vD hal hbl
     by_cases hlt:k<ts.length
     ·obtain⟨x,hx⟩:∃x,x=ts[k]:=⟨_,rfl⟩
      have hv9e:=hv9 (by intro e;rw[e]at hlt;simp at hlt)
      have t60':=t60
      rw[hv9e]at t60'
      have hv1:=hv'.out
      rw[List.drop_eq_getElem_cons hlt,← hx,zgg]at hv1
      simp-implicitDefEqProofs[go_sem,t5,t6,t11,t12,t60',t61,t62,g2,hlt,← hx]
      refine Ret.use (zxo w d x (by omega)) ?_
      by_cases hix:zb8 (fun f:Fc=>decide (f.name=x)) d<0
      ·have hixI:¬0≤zb8 (fun f:Fc=>decide (f.name=x)) d:=by omega
       rw[if_neg (by simpa using hix)]at hv1
       have y1:¬ny=ny+1:=by omega
       have y2:¬nx+1+1=ny+1:=by omega
       have y3:¬nx+1+1+1=ny+1:=by omega
       by_cases hsn:x∈seen
       ·rw[if_pos hsn]at hv1
        obtain⟨j,f1,f2⟩:=zou 0 hsn
        rw[Nat.zero_add]at f2
        have f3:=zwp f1
        simp-implicitDefEqProofs[go_sem,za0,t5,t6,t11,t12,t60',t61,t62,g2,g3,g4,g5,hixI,zck,f2,f3,zac]
        refine hJ (ts.length-(k+1)) _ (by omega) ⟨_,_,_,k+1,seen,D,vD,rfl,rfl,by omega,?_⟩
        simp-implicitDefEqProofs (disch:=omega) [go_sem,t5,t6,t11,t12,t60',t61,t62,g2,g3,g4,y1,y2,y3,zab]
        refine⟨hv9e.symm,fun q=>by omega,fun q=>by omega,rfl,hOD.ext2 (fun q h1 h2 h3=>by rw[Tr.get_put,if_neg (by intro e;rw[e,g5]at h3;simp[bx,zck]at h3)]) (Nat.le_refl _),?_,hn1,by omega,hDs,Lib.hid hv1⟩
        simp(disch:=omega)only[za6]
        exact hE
       ·rw[if_neg hsn]at hv1
        have f2:fnd x seen 0=none:=zzx 0 hsn
        have hvc:vD.cells=[vD]:=by
         rcases hOD with⟨_,_,rfl⟩ |⟨q,_,_,rfl,_⟩ <;> rfl
        have hvm:=hvc
        rw[AV.cells.eq_def]at hvm
        have hOD2:=hOD.ext (g:=h'.put n1 (some (bx 65 [.bs x,.int .i64 1,.int .i64 0,.int .i64 1] false 0))) (n':=n1+1) (fun q h1 h2=>by rw[Tr.get_put,if_neg (by omega)]) (by omega)
        obtain⟨gA,e1,e2,e3⟩:=hOD2.app (m:=1) (news:=[.bs x,.int .i64 1,.int .i64 0,.int .i64 1]) (by omega) (by omega) (by rw[zNt]) (by omega)
        have hqn:∀k,k<n1→h'.get k≠some (bx 65 (D.flatMap Fc.cs) true 4)→gA.get k=h'.get k:=fun k h1 h2=>by
         rw[e2 k (by omega) fun l cp op e=>?_,Tr.get_put,if_neg (by omega)]
         rcases hOD with⟨_,_,rfl⟩ |⟨q,_,_,rfl,q4⟩
         ·cases e
         ·cases e;exact h2 q4
        have b2:gA.get (nx+1+1)=some (bx 35 [.fz 4 w (za8 d)] false 0):=by
         rw[hqn _ (by omega) (by rw[g2];intro e;simp[bx]at e)];exact g2
        have b3:gA.get (nx+1+1+1)=some (bx 43 [.int .i64 0,.sl0] false 0):=by
         rw[hqn _ (by omega) (by rw[g3];intro e;simp[bx]at e)];exact g3
        have b4:gA.get ny=some (bx 81 (A++(B++[vD])) false 0):=by
         rw[hqn _ (by omega) (by rw[g4];intro e;simp[bx]at e)];exact g4
        have b5:gA.get (ny+1)=some (zck seen):=by
         rw[hqn _ (by omega) (by rw[g5];intro e;simp[bx,zck]at e)];exact g5
        simp-implicitDefEqProofs[go_sem,za0,t5,t6,t11,t12,t60',t61,t62,g2,g3,g4,g5,hixI,zck,f2,zac,a1,a2,za3]
        simp-implicitDefEqProofs[go_sem,za0,t5,t6,t11,t12,t60',t61,t62,hixI,zck,f2,zac,a1,a2,a3,e1,b2,b3,b4,b5,y1,y2,y3]
        refine hJ (ts.length-(k+1)) _ (by omega) ⟨_,_,_,k+1,seen++[x],D++[⟨x,1,0,1⟩],.sl (n1+1) 0 (D.length+1) 0 true,rfl,rfl,by omega,?_⟩
        have y4:¬nx+1+1=ny:=by omega
        have y5:¬nx+1+1+1=ny:=by omega
        simp-implicitDefEqProofs (disch:=omega) [go_sem,t5,t6,t11,t12,t60',t61,t62,b2,b3,b4,y1,y2,y3,y4,y5,zab]
        refine⟨hv9e.symm,fun q=>by omega,?_,.inr ⟨n1+1,by omega,by omega,rfl,?_⟩,?_,by omega,by omega,?_,Lib.hid hv1⟩
        ·unfold zck
         have:=zom x seen 0
         rw[Nat.zero_add]at this
         rw[← this,List.length_append]
         rfl
        ·rw[Tr.get_put,if_neg (by omega),Tr.get_put,if_neg (by omega),e3]
         rfl
        ·intro q hq
         rw[Tr.get_put,if_neg (by omega),Tr.get_put,if_neg (by omega),e2 q (by omega) (fun l cp op e=>by
          rcases hOD with⟨_,_,rfl⟩ |⟨q2,q3,_,rfl,_⟩
          ·cases e
          ·cases e;omega),Tr.get_put,if_neg (by omega)]
         exact hE q hq
        ·rintro f (hf |rfl)
         ·exact hDs f hf
         ·have:=hzs x (by rw[hx];exact List.getElem_mem hlt)
          show x.size≤_
          omega
      ·have hixI:0≤zb8 (fun f:Fc=>decide (f.name=x)) d:=by omega
       rw[if_pos hix]at hv1
       rw[hv1]at hres
       simp-implicitDefEqProofs[go_sem,za0,t5,t6,t11,t12,t60',t61,t62,g2,g3,hixI,za3]
       refine hNo _ _ _ _ ?_ hres
       simp(disch:=omega)only[za6]
       exact hE
     ·have hmo:zgg d ts [] d=some D:=by
       rw[hv'.out,List.drop_of_length_le (by omega)]
       rfl
      rw[hmo]at hres
      simp only at hres
      unfold zhj at hres
      have hLD:=hOD.len
      have y2:¬nx+1+1+1=n1:=by omega
      by_cases h60:60<D.length
      ·have h60I:(60:Int)<(D.length:Int):=by omega
       rw[if_pos h60]at hres
       simp-implicitDefEqProofs[go_sem,t5,t6,t11,t12,t60,t61,t62,g2,g3,g4,hlt,a1,a2,hLD,h60,h60I,za3]
       refine hNo _ _ _ _ ?_ hres
       simp(disch:=omega)only[za6]
       exact hE
      ·have h60I:¬(60:Int)<(D.length:Int):=by omega
       rw[if_neg h60]at hres
       simp-implicitDefEqProofs[go_sem,t5,t6,t11,t12,t60,t61,t62,g2,g3,g4,hlt,a1,a2,hLD,h60,h60I,za3]
       generalize hSB:h'.put n1 (some (bx 86 _ false 0))=hMM
       have q0:hMM.get n1=some (bx 86 [.int .i64 1,.func 43 [.ptr ny 0] [],.int .i64 2,.func 44 [.ptr ny 0] [],.int .i64 3,.func 45 [.ptr ny 0] []] false 0):=by rw[← hSB,Tr.get_put,if_pos rfl]
       have q1:∀k,k<n1→hMM.get k=h'.get k:=fun k hk=>by rw[← hSB,Tr.get_put,if_neg (by omega)]
       clear hSB
       have q2:hMM.get ny=some (bx 81 (A++(B++[vD])) false 0):=by rw[q1 _ (by omega)];exact g4
       obtain⟨LF,vF,hLF,hvF,hwF⟩:∃(LF:List Nat) (vF:AV),(ny∈LF∧∀k∈LF,n'≤k∧k<n1)∧Fy hMM (fun a=>a∈LF) vD vF∧Wk vF (.fz 4 false (za8 D)):=by
        rcases hOD with⟨h0,_,rfl⟩ |⟨q,e1,e2,rfl,e4⟩
        ·have:D=[]:=List.eq_nil_of_length_eq_zero h0
         subst this
         exact⟨[ny],.sl0,⟨by simp,by intro k hk;simp at hk;omega⟩,.same _,.sl0 4 false⟩
        ·exact⟨[ny,q],.fz 4 false (za8 D),⟨by simp,by intro k hk;simp at hk;omega⟩,zAm (by simp) (by rw[q1 _ e2];exact e4),.same _⟩
       have hfp:=zUd (F:=fun a=>a∈LF) hLF.1 q2 hvF
       obtain⟨PV,hPV⟩:∃PV,PV=A++(B++[vF]):=⟨_,rfl⟩
       rw[← hPV]at hfp
       obtain⟨hC,hhC⟩:∃hC,hC=(zdd hMM LF).put n1 (some (bx 86 [.int .i64 1,.func 43 [.ip PV] [],.int .i64 2,.func 44 [.ip PV] [],.int .i64 3,.func 45 [.ip PV] []] false 0)):=⟨_,rfl⟩
       have hnL:¬n1∈LF:=fun q=>by have:=hLF.2 _ q;omega
       refine znf (fun a=>a∈LF) (h':=hC) ?_ FyT.refl ?_
       ·rw[hhC]
        refine FyH.put (FyH.kill _) hnL q0 (.cells _ _ _ _ _ _ fun a ha v hv'=>?_)
        rw[zbt]at hv' ⊢
        have hfn:∀f:FuncId,Fy hMM (fun a=>a∈LF) (.func f [.ptr ny 0] []) (.func f [.ip PV] []):=fun f=>.func f _ _ _ _ (.cons _ _ _ _ hfp .nil) .nil
        rcases a with _ |_ |_ |_ |_ |_ |a
        ·simp at hv';subst hv';exact⟨_,rfl,.same _⟩
        ·simp at hv';subst hv';exact⟨_,rfl,hfn 43⟩
        ·simp at hv';subst hv';exact⟨_,rfl,.same _⟩
        ·simp at hv';subst hv';exact⟨_,rfl,hfn 44⟩
        ·simp at hv';subst hv';exact⟨_,rfl,.same _⟩
        ·simp at hv';subst hv';exact⟨_,rfl,hfn 45⟩
        ·simp at hv'
       have s0:hC.get n1=some (bx 86 [.int .i64 1,.func 43 [.ip PV] [],.int .i64 2,.func 44 [.ip PV] [],.int .i64 3,.func 45 [.ip PV] []] false 0):=by rw[hhC,Tr.get_put,if_pos rfl]
       have s1:∀k,k<n'→hC.get k=h'.get k:=fun k hk=>by
        rw[hhC,Tr.get_put,if_neg (by omega),zfa (fun q=>by have:=hLF.2 _ q;omega),q1 _ (by omega)]
       have s3:hC.get (nx+1+1+1)=some (bx 43 [.int .i64 0,.sl0] false 0):=by rw[s1 _ (by omega)];exact g3
       have hEC:Ext nx h hC:=fun k hk=>by rw[s1 k (by omega)];exact hE k hk
       have hF1:=zIg a b vF hea heb
       have hS1:=zKw a b vF hsa hsb
       have hK1:Ret Tryz.prog cx 45 [.ip PV] (zfj a.when_ b.when_ D).v:=by
        have hc0:=zPc false a b D ha hb (by omega) hDs
        refine hc0.wk (.cons _ _ _ _ (.ip _ _ ?_) .nil) (.same _)
        rw[hPV,hA,hB,← List.append_assoc,← List.append_assoc]
        exact zF2 A B hwF _
       rw[← hA,← hB,← hPV]at hF1 hS1
       clear hhC s1 hfp hvF hwF hLF hnL q0 q1 q2 g4 g5 hOD hv' hmo
       refine zap (fun mm st=>∃tm h' n2 j,st=.mk tm h' n2 []∧mm=3-j∧j≤3∧tm.get 6=some (.ptr (nx+1+1+1) 0)∧tm.get 108=some (.sl n1 0 3 3 false)∧tm.get 109=some (.int .i64 3)∧tm.get 110=some (.int .i64 (j:Int))∧
        h'.get (nx+1+1+1)=some (bx 43 [.int .i64 0,.sl0] false 0)∧h'.get n1=some (bx 86 [.int .i64 1,.func 43 [.ip PV] [],.int .i64 2,.func 44 [.ip PV] [],.int .i64 3,.func 45 [.ip PV] []] false 0)∧Ext nx h h'∧n1<n2∧RowKit.Hid ((1≤j→zg8 a b)∧(2≤j→(zaw a.begin_ b.begin_ && zaw a.end_ b.end_ && zaw a.again b.again)=true)∧(3≤j→(zfj a.when_ b.when_ D).e=0∧(zfj a.when_ b.when_ D).f=false))) ⟨3,_,_,_,0,rfl,rfl,by omega,?_⟩ ?_
       ·simp-implicitDefEqProofs[go_sem,t6,s3,s0]
        exact⟨hEC,Lib.hid trivial⟩
       ·rintro mm st ⟨tm,h',n2,j,rfl,rfl,hj,t6,t108,t109,t110,g3,g4,hE,hn2,hc⟩ J hJ
        refine zag za4 _ ?_
        obtain⟨hc1,hc2,hc3⟩:=hc.out
        have x1:¬n1=n2:=by omega
        have x2:¬nx+1+1+1=n2:=by omega
        rcases (by omega:j=0∨j=1∨j=2∨j=3) with rfl |rfl |rfl |rfl
        ·simp-implicitDefEqProofs[go_sem,t6,t108,t109,t110,g3,g4,x1,x2,za3]
         refine Ret.use hF1 ?_
         by_cases hf:zg8 a b
         ·simp-implicitDefEqProofs[go_sem,za0,t6,t108,t109,t110,g3,g4,x1,x2,za3,hf]
          refine hJ (3-1) _ (by omega) ⟨_,_,_,1,rfl,rfl,by omega,?_⟩
          simp-implicitDefEqProofs (disch:=omega) [go_sem,t6,t108,t109,t110,g3,g4,x1,x2,zab]
          refine⟨?_,Lib.hid hf⟩
          simp(disch:=omega)only[za6]
          exact hE
         ·rw[if_pos hf]at hres
          simp-implicitDefEqProofs[go_sem,za0,t6,t108,t109,t110,g3,g4,x1,x2,za3,hf]
          refine hNo _ _ _ _ ?_ hres
          simp(disch:=omega)only[za6]
          exact hE
        ·rw[if_neg (fun q=>q (hc1 (by omega)))]at hres
         simp-implicitDefEqProofs[go_sem,t6,t108,t109,t110,g3,g4,x1,x2,za3]
         refine Ret.use hS1 ?_
         cases hf:(zaw a.begin_ b.begin_ && zaw a.end_ b.end_ && zaw a.again b.again) with
         |true=>
          simp-implicitDefEqProofs[go_sem,za0,t6,t108,t109,t110,g3,g4,x1,x2,za3]
          refine hJ (3-2) _ (by omega) ⟨_,_,_,2,rfl,rfl,by omega,?_⟩
          simp-implicitDefEqProofs (disch:=omega) [go_sem,t6,t108,t109,t110,g3,g4,x1,x2,zab]
          refine⟨?_,Lib.hid ⟨hc1 (by omega),by simpa using hf⟩⟩
          simp(disch:=omega)only[za6]
          exact hE
         |false=>
          rw[if_pos hf]at hres
          simp-implicitDefEqProofs[go_sem,za0,t6,t108,t109,t110,g3,g4,x1,x2,za3]
          refine hNo _ _ _ _ ?_ hres
          simp(disch:=omega)only[za6]
          exact hE
        ·rw[if_neg (fun q=>q (hc1 (by omega))),if_neg (by rw[hc2 (by omega)];simp)]at hres
         simp-implicitDefEqProofs[go_sem,t6,t108,t109,t110,g3,g4,x1,x2,za3]
         have hix2:zd3 (TI.mk (TypeDesc.slice 86) 1 24 (some AV.sl0) [(0,2,true)]) (AV.sl n1 0 3 3 false) (AV.int IntKind.i64 2) h' n2=.val (.ptr n1 4) h' n2:=rfl
         simp-implicitDefEqProofs[go_sem,t6,t108,t109,t110,g3,g4,x1,x2,za3,hix2]
         refine Ret.use hK1 ?_
         generalize zfj a.when_ b.when_ D=CR0 at hres hJ hc3
         obtain⟨cf,cc,ce⟩:=CR0
         simp only[CA.v]at hres hc3 ⊢
         by_cases he:ce=0
         ·subst he
          rw[if_neg (by simp)]at hres
          cases cf with
          |true=>
           rw[if_pos rfl]at hres
           simp-implicitDefEqProofs[go_sem,za0,t6,t108,t109,t110,g3,g4,x1,x2,za3]
           rw[hres]at hR
           refine hR _ _ _ _ ?_ (.tup _ _ (.cons _ _ _ _ (.agg _ _ (.cons _ _ _ _ (.int _ _) (.cons _ _ _ _ (Fz.same _ (by simp[plain,zhw])) .nil))) (.cons _ _ _ _ (.int _ _) .nil))) (.same _)
           simp(disch:=omega)only[za6]
           exact hE
          |false=>
           simp-implicitDefEqProofs[go_sem,za0,t6,t108,t109,t110,g3,g4,x1,x2,za3]
           refine hJ (3-3) _ (by omega) ⟨_,_,_,3,rfl,rfl,by omega,?_⟩
           simp-implicitDefEqProofs (disch:=omega) [go_sem,t6,t108,t109,t110,g3,g4,x1,x2,zab]
           refine⟨?_,Lib.hid ⟨hc1 (by omega),by simpa using hc2 (by omega)⟩⟩
           simp(disch:=omega)only[za6]
           exact hE
         ·rw[if_pos he]at hres
          simp-implicitDefEqProofs[go_sem,za0,t6,t108,t109,t110,g3,g4,x1,x2,za3,he]
          refine hNo _ _ _ _ ?_ hres
          simp(disch:=omega)only[za6]
          exact hE
        ·rw[if_neg (fun q=>q (hc1 (by omega))),if_neg (by rw[hc2 (by omega)];simp),if_neg (by rw[(hc3 (by omega)).1];simp),if_neg (by rw[(hc3 (by omega)).2];simp)]at hres
         simp-implicitDefEqProofs[go_sem,t6,t108,t109,t110,g3,g4,x1,x2,za3]
         refine hNo _ _ _ _ ?_ hres
         simp(disch:=omega)only[za6]
         exact hE
end
end Go.Ev
