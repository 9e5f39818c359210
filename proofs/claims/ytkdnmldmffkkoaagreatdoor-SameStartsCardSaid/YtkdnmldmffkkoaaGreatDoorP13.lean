/- Texts T1 T2 T4 Sim3 T5 Sim4 T6. -/
import Derived.Lib.Hide
import Derived.Test.YtkdnmldmffkkoaaGreatDoorP11
import Derived.Test.YtkdnmldmffkkoaaGreatDoorP12
set_option linter.unusedSimpArgs false
set_option linter.unusedVariables false
set_option maxRecDepth 100000
namespace Go.Ev
open Go.Proofs
noncomputable section
inductive Fm where
 |mk (op:Int) (name:ByteArray) (cmp n:Int) (kids:List Fm)
mutual
def Fm.cs:Fm→List AV
 |.mk op name cmp n kids=>[.int .i64 op,.bs name,.int .i64 cmp,.int .i64 n,.fz 5 false (zat kids)]
def zat:List Fm→List AV
 |[]=>[]
 |f::l=>.agg f.cs::zat l
end
theorem zmr:∀(l:List Fm),zat l=l.map fun f=>.agg f.cs
 |[]=>rfl
 |f::l=>by simp[zat,zmr l]
mutual
def Fm.size:Fm→Nat
 |.mk _ _ _ _ kids=>1+zae kids
def zae:List Fm→Nat
 |[]=>0
 |f::l=>f.size+zae l
end
mutual
def Fm.deep:Fm→Nat
 |.mk _ _ _ _ kids=>zdq kids+1
def zdq:List Fm→Nat
 |[]=>0
 |f::l=>max f.deep (zdq l)
end
theorem zI0:cx.ft.get 130=some Tryz.f130:=za9 (by decide) (by kernel_rfl)
theorem zrs (l m:List Fm):zae (l++m)=zae l+zae m:=by
 induction l with
 |nil=>simp[zae]
 |cons f l ih=>simp[zae,ih];omega
theorem zDo (l m:List Fm):zdq (l++m)=max (zdq l) (zdq m):=by
 induction l with
 |nil=>simp[zdq]
 |cons f l ih=>simp[zdq,ih,Nat.max_assoc]
theorem zul:∀f:Fm,f.deep≤f.size
 |.mk _ _ _ _ kids=>by
  simp only[Fm.deep,Fm.size]
  have:=deepL_le kids
  omega
where deepL_le:∀l:List Fm,zdq l≤zae l
 |[]=>by simp[zdq]
 |f::l=>by
  simp only[zdq,zae]
  have:=zul f
  have:=deepL_le l
  omega
@[go_sem] theorem Fm.cs_len (f:Fm):f.cs.length=5:=by cases f;rfl
@[go_sem] theorem Fm.cs_one (f:Fm):zba f.cs=true:=by cases f;rfl
@[go_sem] theorem Fm.cs_take (f:Fm):f.cs.take 5=f.cs:=List.take_of_length_le (by simp[Fm.cs_len])
@[go_sem] theorem zLj (l:List Fm):(zat l).length=l.length:=by simp[zmr]
@[go_sem] theorem yca (kids:List Fm) (k:Nat)(hk:k<(zat kids).length):(zat kids)[k]=(.agg (kids[k]'(by simpa[zmr]using hk)).cs):=by simp[zmr]
theorem size_pos (f:Fm):1≤f.size:=by cases f;simp[Fm.size]
theorem zjw:∀l:List Fm,l.length≤zae l
 |[]=>by simp[zae]
 |f::l=>by
  have:=size_pos f
  have:=zjw l
  simp only[zae,List.length_cons]
  omega
theorem zfn {l:List Fm}{k:Nat}(hk:k<l.length):zae (l.take (k+1))=zae (l.take k)+(l[k]).size∧zdq (l.take (k+1))=max (zdq (l.take k)) (l[k]).deep∧zae (l.take k)+(l[k]).size≤zae l:=by
 have h1:l.take (k+1)=l.take k++[l[k]]:=List.take_succ_eq_append_getElem hk
 have h2:zae l=zae (l.take (k+1))+zae (l.drop (k+1)):=by rw[← zrs,List.take_append_drop]
 rw[h1,zrs]at h2
 rw[h1,zrs,zDo]
 simp only[zae,zdq,Nat.add_zero,Nat.max_zero]at h2 ⊢
 exact⟨trivial,trivial,by omega⟩
mutual
theorem Fm.cs_plain:∀f:Fm,zah f.cs=true
 |.mk op name cmp n kids=>by simp[Fm.cs,zah,plain,zpf kids]
theorem zpf:∀l:List Fm,zah (zat l)=true
 |[]=>rfl
 |f::l=>by simp[zat,zah,plain,f.cs_plain,zpf l]
end
theorem zMv (b:Nat):∀(f:Fm),f.size≤b→b≤1000000000→Ret Tryz.prog cx 130 [.agg f.cs] (.tup [.int .i64 f.size,.int .i64 f.deep]):=by
 induction b with
 |zero=>intro f hf;cases f;simp[Fm.size]at hf
 |succ b ih=>
 intro f hf hb
 have hd:=zul f
 cases f with
 |mk op name cmp n kids=>
 refine Ret.mk fun h nx R hR=>zaa (sz:=32) (rs:=[.tmp 2,.tmp 3]) za4 zI0 rfl rfl rfl (by simp) ?_
 simp[go_sem,Fm.cs]
 simp only[Fm.size,Fm.deep]at hf hd hR
 refine zap (fun m s=>∃tm h' nx' k,s=.mk tm h' nx' []∧m=kids.length-k∧k≤kids.length∧tm.get 11=some (.fz 5 false (zat kids))∧tm.get 12=some (.int .i64 (kids.length:Int))∧tm.get 13=some (.int .i64 (k:Int))∧
  tm.get 4=some (.int .i64 ((1+zae (kids.take k):Nat):Int))∧tm.get 5=some (.int .i64 ((zdq (kids.take k):Nat):Int))∧Ext nx h h'∧nx≤nx') ⟨kids.length,_,_,_,0,rfl,by simp,by simp,?_⟩ ?_
 ·simp[go_sem,zae,zdq]
  exact(Ext.refl nx h).put (Nat.le_refl _) _
 ·rintro m s ⟨tm,h',nx',k,rfl,rfl,hk,t11,t12,t13,t4,t5,he,hn⟩ J hJ
  refine zag za4 _ ?_
  by_cases hlt:k<kids.length
  ·obtain⟨s1,s2,s3⟩:=zfn hlt
   have hd2:=zul kids[k]
   have hl:=zjw kids
   have hd3:zdq (kids.take k)≤1000000000:=by
    have:zdq kids=max (zdq (kids.take k)) (zdq (kids.drop k)):=by rw[← zDo,List.take_append_drop]
    omega
   simp[go_sem,t11,t12,t13,t4,t5,hlt]
   refine Ret.use (ih _ (by omega) (by omega)) ?_
   simp[go_sem,za0,t11,t12,t13,t4,t5,hlt]
   refine hJ (kids.length-(k+1)) _ (by omega) ⟨_,_,_,k+1,rfl,rfl,by omega,?_⟩
   simp(disch:=omega) [go_sem,t11,t12,t13,s1,s2,zab]
   exact⟨by omega,by omega,(he.put hn _).put hn _,by omega⟩
  ·obtain rfl:k=kids.length:=by omega
   have hd3:zdq kids≤1000000000:=by omega
   rw[List.take_length]at t4 t5
   simp(disch:=omega) [go_sem,t11,t12,t13,t4,t5,zab]
   exact hR _ _ _ he (Fz.eq rfl (by simp))
inductive Stt where
 |mk (op:Int) (name:ByteArray) (day:Int) (kids:List Stt)
mutual
def Stt.cs:Stt→List AV
 |.mk op name day kids=>[.int .i64 op,.bs name,.int .i64 day,.fz 4 false (zda kids)]
def zda:List Stt→List AV
 |[]=>[]
 |f::l=>.agg f.cs::zda l
end
theorem zns:∀(l:List Stt),zda l=l.map fun f=>.agg f.cs
 |[]=>rfl
 |f::l=>by simp[zda,zns l]
@[go_sem] theorem Stt.cs_len (f:Stt):f.cs.length=4:=by cases f;rfl
@[go_sem] theorem Stt.cs_one (f:Stt):zba f.cs=true:=by cases f;rfl
@[go_sem] theorem Stt.cs_take (f:Stt):f.cs.take 4=f.cs:=List.take_of_length_le (by simp[Stt.cs_len])
@[go_sem] theorem zVj (l:List Stt):(zda l).length=l.length:=by simp[zns]
@[go_sem] theorem ybx (kids:List Stt) (k:Nat)(hk:k<(zda kids).length):(zda kids)[k]=(.agg (kids[k]'(by simpa[zns]using hk)).cs):=by simp[zns]
mutual
def zaw:Stt→Stt→Bool
 |.mk o n d k,.mk o' n' d' k'=>decide (o=o') && decide (n=n') && decide (d=d') && zdm k k'
def zdm:List Stt→List Stt→Bool
 |[],[]=>true
 |a::l,b::m=>zaw a b && zdm l m
 |_,_=>false
end
mutual
def Stt.size:Stt→Nat
 |.mk _ _ _ k=>1+zbr k
def zbr:List Stt→Nat
 |[]=>0
 |a::l=>a.size+zbr l
end
theorem zvp:∀{k k':List Stt},k.length≠k'.length→zdm k k'=false
 |[],[],h=>absurd rfl h
 |[],_::_,_=>by simp[zdm]
 |_::_,[],_=>by simp[zdm]
 |a::l,b::m,h=>by simp[zdm,zvp (k:=l) (k':=m) (by simpa using h)]
theorem Stt.size_pos (f:Stt):1≤f.size:=by cases f;simp[Stt.size]
theorem zs3:∀l:List Stt,l.length≤zbr l
 |[]=>by simp[zbr]
 |f::l=>by
  have:=f.size_pos
  have:=zs3 l
  simp only[zbr,List.length_cons]
  omega
theorem zyi:∀{l:List Stt}{k:Nat}(hk:k<l.length),(l[k]).size≤zbr l
 |f::l,0,_=>by simp[zbr]
 |f::l,k+1,h=>by
  have:=zyi (l:=l) (k:=k) (by simpa using h)
  simp only[zbr,List.getElem_cons_succ]
  omega
theorem zSn:cx.ft.get 21=some Tryz.f21:=za9 (by decide) (by kernel_rfl)
theorem zx0 (b:Nat):∀(f g:Stt),f.size≤b→b≤1000000000→Ret Tryz.prog cx 21 [.agg f.cs,.agg g.cs] (.bool (zaw f g)):=by
 induction b with
 |zero=>intro f g hf;cases f;simp[Stt.size]at hf
 |succ b ih=>
 rintro⟨o,n,d,k⟩ ⟨o',n',d',k'⟩ hf hb
 refine Ret.mk fun h nx R hR=>zaa (sz:=53) (rs:=[.tmp 4]) za4 zSn rfl rfl rfl (by simp) ?_
 have fin:∀(g:Tr ABlk) (ny:Nat) (v:Bool),Ext nx h g→v=zaw (.mk o n d k) (.mk o' n' d' k')→R (.bool v) g ny:=fun g ny v he hv=>hR _ _ _ he (Fz.eq rfl (by rw[hv]))
 clear hR
 have he0:∀A B,Ext nx h ((h.put nx A).put (nx+1) B):=fun A B=>((Ext.refl nx h).put (Nat.le_refl _) _).put (by omega) _
 by_cases h1:o=o'
 ·by_cases h2:n=n'
  ·by_cases h3:d=d'
   ·by_cases h4:k.length=k'.length
    ·simp[go_sem,Stt.cs,h1,h2,h3,h4]
     obtain⟨H,hH⟩:∃H,H=((h.put nx (some (bx 28 [.int .i64 o',.bs n',.int .i64 d',.fz 4 false (zda k)] false 0))).put (nx+1) (some (bx 28 [.int .i64 o',.bs n',.int .i64 d',.fz 4 false (zda k')] false 0))):=⟨_,rfl⟩
     have g1:H.get nx=some (bx 28 [.int .i64 o',.bs n',.int .i64 d',.fz 4 false (zda k)] false 0):=by rw[hH];simp[go_sem]
     have g2:H.get (nx+1)=some (bx 28 [.int .i64 o',.bs n',.int .i64 d',.fz 4 false (zda k')] false 0):=by rw[hH];simp[go_sem]
     have he:Ext nx h H:=by rw[hH];exact he0 _ _
     rw[← hH]
     clear hH
     refine zap (fun m s=>∃tm i,s=.mk tm H (nx+1+1) []∧m=k.length-i∧i≤k.length∧tm.get 2=some (.ptr nx 0)∧tm.get 3=some (.ptr (nx+1) 0)∧tm.get 5=some (.int .i64 (i:Int))∧RowKit.Hid (zdm k k'=zdm (k.drop i) (k'.drop i))) ⟨k.length,_,0,rfl,by simp,by simp,?_⟩ ?_
     ·simp[go_sem]
      exact Lib.hid (by simp)
     ·rintro m s ⟨tm,i,rfl,rfl,hi,t2,t3,t5,hs⟩ J hJ
      refine zag za4 _ ?_
      by_cases hlt:i<k.length
      ·have hlt':i<k'.length:=by omega
       have hdrop:zdm k k'=(zaw k[i] k'[i] && zdm (k.drop (i+1)) (k'.drop (i+1))):=by
        rw[hs.out,List.drop_eq_getElem_cons hlt,List.drop_eq_getElem_cons hlt']
        simp[zdm]
       have HD:=Lib.hid hdrop
       clear hdrop
       simp[go_sem,t2,t3,t5,g1,g2,hlt,hlt',h4]
       refine zbq mixed za4 zbe [] [10] [] (by kernel_rfl) ?_
       simp[go_sem,t2,t3,t5,g1,g2,hlt,hlt',h4]
       refine zbm (ih _ _ ?_ (by omega)) ?_
       ·have:=zyi hlt
        simp only[Stt.size]at hf
        omega
       by_cases hsame:zaw k[i] k'[i]=true
       ·simp[go_sem,zas,t2,t3,t5,g1,g2,hlt,hlt',h4,hsame]
        refine hJ (k.length-(i+1)) _ (by omega) ⟨_,i+1,rfl,rfl,by omega,?_⟩
        have hl:=zs3 k
        simp only[Stt.size]at hf
        simp(disch:=omega) [go_sem,t2,t3,t5,zab]
        refine Lib.hid ?_
        rw[HD.out,hsame,Bool.true_and]
       ·have hsame':zaw k[i] k'[i]=false:=by simpa using hsame
        simp[go_sem,zas,t2,t3,t5,g1,g2,hlt,hlt',h4,hsame']
        refine fin _ _ _ he ?_
        simp[zaw,h1,h2,h3,HD.out,hsame']
      ·have hend:=hs.out
       rw[List.drop_of_length_le (by omega),List.drop_of_length_le (by omega)]at hend
       simp[go_sem,t2,t3,t5,g1,g2,hlt]
       refine fin _ _ _ he ?_
       simp[zaw,h1,h2,h3,hend,zdm]
    ·have h4':¬((k.length:Int)=(k'.length:Int)):=by omega
     simp[go_sem,Stt.cs,h1,h2,h3,h4']
     refine fin _ _ _ (he0 _ _) ?_;simp[zaw,zvp h4]
   ·simp[go_sem,Stt.cs,h1,h2,h3]
    refine fin _ _ _ (he0 _ _) ?_;simp[zaw,h3]
  ·simp[go_sem,Stt.cs,h1,h2]
   refine fin _ _ _ (he0 _ _) ?_;simp[zaw,h2]
 ·simp[go_sem,Stt.cs,h1]
  refine fin _ _ _ (he0 _ _) ?_;simp[zaw,h1]
theorem zHg:cx.ft.get 88=some Tryz.f88:=za9 (by decide) (by kernel_rfl)
theorem zsb:cx.ft.get 133=some Tryz.f133:=za9 (by decide) (by kernel_rfl)
theorem zPi:cx.ft.get 134=some Tryz.f134:=za9 (by decide) (by kernel_rfl)
theorem zxf (f:Fm):Ret Tryz.prog cx 88 [.agg f.cs] (.func 133 [] [.ip f.cs]):=by
 refine Ret.mk fun h nx R hR=>zaa (sz:=4) (rs:=[.tmp 2]) za4 zHg rfl rfl rfl (by simp) ?_
 simp[go_sem]
 refine hR _ _ _ ((Ext.refl nx h).put (Nat.le_refl _) _) ?_
 refine .func 133 _ _ _ _ .nil (.cons _ _ _ _ (.pin nx 0 24 f.cs.length (zbh f.cs .nil 0) false 0 f.cs f.cs (Nat.le_refl _) ?_ (by omega) (fun j hj=>by rw[Nat.zero_add,zbt]) ?_) .nil)
 ·rw[Tr.get_put,if_pos rfl];rfl
 ·exact FzL.same _ f.cs_plain
def zbp (O:Nat→Prop)(h:Tr ABlk) (nx:Nat)(O':Nat→Prop)(g:Tr ABlk) (ny:Nat):Prop:=nx≤ny∧(∀k,k<nx→¬O k→g.get k=h.get k)∧∀k,O' k→O k∨nx≤k
theorem zbp.trans {O O' O'':Nat→Prop}{h g f:Tr ABlk}{nx ny nz:Nat}(p:zbp O h nx O' g ny)(q:zbp O' g ny O'' f nz):zbp O h nx O'' f nz:=by
 obtain⟨p1,p2,p3⟩:=p
 obtain⟨q1,q2,q3⟩:=q
 refine⟨by omega,fun k hk ho=>?_,fun k hk=>?_⟩
 ·rw[q2 k (by omega) (fun h'=>by rcases p3 k h' with h1 |h1;exact ho h1;omega),p2 k hk ho]
 ·rcases q3 k hk with h1 |h1
  ·exact p3 k h1
  ·exact .inr (by omega)
theorem zbp.ext {O:Nat→Prop}{h g:Tr ABlk}{nx ny:Nat}(e:Ext nx h g)(hl:nx≤ny):zbp O h nx O g ny:=⟨hl,fun k hk _=>e k hk,fun k hk=>.inl hk⟩
structure Vis (P:Program)(c:Cx)(S:Type)(step:S→Fm→S×Bool)(Pre:S→Fm→Prop) (i a b:Nat)(J JE:S→(Nat→Prop)→Tr ABlk→Nat→Prop):Prop where
 ext:∀s O h nx h' nx',J s O h nx→(∀k,O k→h'.get k=h.get k)→nx≤nx'→J s O h' nx'
 lt:∀s O h nx,J s O h nx→∀k,O k→k<nx∧k≠a∧k≠b
 yld:∀s O x h nx,Pre s x→J s O h nx→zgp P c i [.agg x.cs] h nx fun v g ny=>v=.bool (step s x).2∧∃O',zbp O h nx O' g ny∧(if (step s x).2 then J (step s x).1 O' g ny else JE (step s x).1 O' g ny)
mutual
def zbd {S:Type}(step:S→Fm→S×Bool):S→Fm→S×Bool
 |s,.mk o n c m kids=>if (step s (.mk o n c m kids)).2 then zcz step (step s (.mk o n c m kids)).1 kids else ((step s (.mk o n c m kids)).1,false)
def zcz {S:Type}(step:S→Fm→S×Bool):S→List Fm→S×Bool
 |s,[]=>(s,true)
 |s,f::l=>if (zbd step s f).2 then zcz step (zbd step s f).1 l else ((zbd step s f).1,false)
end
mutual
def zpt {S:Type}(step:S→Fm→S×Bool)(Pre:S→Fm→Prop):S→Fm→Prop
 |s,.mk o n c m kids=>Pre s (.mk o n c m kids)∧((step s (.mk o n c m kids)).2=true→zqc step Pre (step s (.mk o n c m kids)).1 kids)
def zqc {S:Type}(step:S→Fm→S×Bool)(Pre:S→Fm→Prop):S→List Fm→Prop
 |_,[]=>True
 |s,f::l=>zpt step Pre s f∧((zbd step s f).2=true→zqc step Pre (zbd step s f).1 l)
end
mutual
theorem zvr {S:Type}{step:S→Fm→S×Bool}{mu:S→Nat}(h1:∀s x,mu (step s x).1≤mu s+1):∀s f,mu (zbd step s f).1≤mu s+f.size
 |s,.mk o n c m kids=>by
  have h2:=h1 s (.mk o n c m kids)
  have h3:=zBl h1 (step s (.mk o n c m kids)).1 kids
  simp only[zbd,Fm.size]
  split
  ·omega
  ·simp only;omega
theorem zBl {S:Type}{step:S→Fm→S×Bool}{mu:S→Nat}(h1:∀s x,mu (step s x).1≤mu s+1):∀s l,mu (zcz step s l).1≤mu s+zae l
 |s,[]=>by simp[zcz]
 |s,f::l=>by
  have h2:=zvr h1 s f
  have h3:=zBl h1 (zbd step s f).1 l
  simp only[zcz,zae]
  split
  ·omega
  ·simp only;omega
end
mutual
theorem zun {S:Type}{step:S→Fm→S×Bool}{Pre:S→Fm→Prop}{mu:S→Nat}{N:Nat}(h1:∀s x,mu (step s x).1≤mu s+1)(h2:∀s x,mu s<N→Pre s x):∀s f,mu s+f.size≤N→zpt step Pre s f
 |s,.mk o n c m kids,hl=>by
  simp only[Fm.size]at hl
  have h3:=h1 s (.mk o n c m kids)
  exact⟨h2 _ _ (by omega),fun _=>zxp h1 h2 _ kids (by omega)⟩
theorem zxp {S:Type}{step:S→Fm→S×Bool}{Pre:S→Fm→Prop}{mu:S→Nat}{N:Nat}(h1:∀s x,mu (step s x).1≤mu s+1)(h2:∀s x,mu s<N→Pre s x):∀s l,mu s+zae l≤N→zqc step Pre s l
 |_,[],_=>trivial
 |s,f::l,hl=>by
  simp only[zae]at hl
  have h3:=zvr h1 s f
  exact⟨zun h1 h2 s f (by omega),fun _=>zxp h1 h2 _ l (by omega)⟩
end
def zBr {S:Type}(J JE:S→(Nat→Prop)→Tr ABlk→Nat→Prop)(q:S×Bool)(O:Nat→Prop)(h:Tr ABlk) (nx:Nat)(v:AV)(g:Tr ABlk) (ny:Nat):Prop:=v=.bool q.2∧∃O',zbp O h nx O' g ny∧(if q.2 then J q.1 O' g ny else JE q.1 O' g ny)
theorem zL7 {S:Type}{step:S→Fm→S×Bool}{Pre:S→Fm→Prop}{i a b:Nat}{J JE:S→(Nat→Prop)→Tr ABlk→Nat→Prop}(V:Vis Tryz.prog cx S step Pre i a b J JE) (n:Nat):∀(f:Fm)(s:S)(O:Nat→Prop)(h:Tr ABlk) (nx:Nat),f.size≤n→n≤1000000000→zpt step Pre s f→J s O h nx→a<nx→b<nx→
  h.get a=some (bx 178 [.yld i] false 0)→h.get b=some (bx 178 [.func 134 [] [.ptr a 0,.ptr b 0]] false 0)→
  za7 Tryz.prog cx 134 [.agg f.cs,.ptr a 0,.ptr b 0] h nx (zBr J JE (zbd step s f) O h nx):=by
 induction n with
 |zero=>intro f _ _ _ _ hf;cases f;simp[Fm.size]at hf
 |succ n ih=>
 intro f s O h nx hf hn hP hJ la lb ga gb
 have hP0:Pre s f:=by cases f;exact hP.1
 obtain⟨R,hR⟩:∃R:AV→Tr ABlk→Nat→Prop,R=zBr J JE (zbd step s f) O h nx:=⟨_,rfl⟩
 rw[← hR]
 have na:¬a=nx:=by omega
 have hO:=V.lt s O h nx hJ
 have e1:Ext nx h (h.put nx (some (bx 24 f.cs false 0))):=(Ext.refl nx h).put (Nat.le_refl _) _
 refine zaa (sz:=23) (rs:=[.tmp 4]) za4 zPi rfl rfl rfl (by simp) ?_
 simp[go_sem,ga,na]
 refine(V.yld s O f _ _ hP0 (V.ext s O h nx _ _ hJ (fun k hk=>e1 k (hO k hk).1) (by omega))).mono ?_
 rintro v g ny ⟨rfl,O',hK,hq⟩
 have hK':=(zbp.ext (O:=O) e1 (Nat.le_succ nx)).trans hK
 have gf:g.get nx=some (bx 24 f.cs false 0):=by
  rw[hK.2.1 nx (by omega) (fun ho=>by have:=(hO nx ho).1;omega)]
  simp[go_sem]
 cases f with
 |mk o nm cm m kids=>
 by_cases hs:(step s (.mk o nm cm m kids)).2=true
 ·rw[if_pos hs]at hq
  have ga':g.get a=some (bx 178 [.yld i] false 0):=by rw[hK'.2.1 a la (fun ho=>(hO a ho).2.1 rfl)];exact ga
  have gb':g.get b=some (bx 178 [.func 134 [] [.ptr a 0,.ptr b 0]] false 0):=by rw[hK'.2.1 b lb (fun ho=>(hO b ho).2.2 rfl)];exact gb
  have hny:nx<ny:=hK.1
  have hl:=zjw kids
  simp only[Fm.size]at hf
  have e3:zbd step s (.mk o nm cm m kids)=zcz step (step s (.mk o nm cm m kids)).1 kids:=by rw[zbd,if_pos hs]
  rw[e3]at hR
  simp[go_sem,za0,hs,gf,Fm.cs]
  refine zap (fun mm st=>∃tm h' nx' k s' O1,st=.mk tm h' nx' []∧mm=kids.length-k∧k≤kids.length∧tm.get 2=some (.ptr b 0)∧tm.get 12=some (.fz 5 false (zat kids))∧tm.get 13=some (.int .i64 (kids.length:Int))∧tm.get 14=some (.int .i64 (k:Int))∧
   RowKit.Hid (zcz step (step s (.mk o nm cm m kids)).1 kids=zcz step s' (kids.drop k))∧RowKit.Hid (zbp O h nx O1 h' nx')∧J s' O1 h' nx'∧RowKit.Hid (zqc step Pre s' (kids.drop k))) ⟨kids.length,_,_,_,0,(step s (.mk o nm cm m kids)).1,O',rfl,by simp,by simp,?_⟩ ?_
  ·simp[go_sem]
   exact⟨Lib.hid (by simp),Lib.hid hK',hq,Lib.hid (hP.2 hs)⟩
  ·rintro mm st ⟨tm,h',nx',k,s',O1,rfl,rfl,hk,t2,t12,t13,t14,hv,hKk,hJk,hPk⟩ J' hJ'
   refine zag za4 _ ?_
   have hO1:=V.lt s' O1 h' nx' hJk
   have ga2:h'.get a=some (bx 178 [.yld i] false 0):=by rw[hKk.out.2.1 a la (fun ho=>(hO a ho).2.1 rfl)];exact ga
   have gb2:h'.get b=some (bx 178 [.func 134 [] [.ptr a 0,.ptr b 0]] false 0):=by rw[hKk.out.2.1 b lb (fun ho=>(hO b ho).2.2 rfl)];exact gb
   have hnx:nx≤nx':=hKk.out.1
   have nb:¬b=nx':=by omega
   by_cases hlt:k<kids.length
   ·obtain⟨s1,_,s3⟩:=zfn hlt
    have hdr:zcz step s' (kids.drop k)=if (zbd step s' kids[k]).2 then zcz step (zbd step s' kids[k]).1 (kids.drop (k+1)) else ((zbd step s' kids[k]).1,false):=by
     rw[List.drop_eq_getElem_cons hlt,zcz]
    have HD:=Lib.hid hdr
    clear hdr
    have hP2:=hPk.out
    rw[List.drop_eq_getElem_cons hlt]at hP2
    obtain⟨hP3,hP4⟩:=hP2
    have HP4:=Lib.hid hP4
    clear hP4
    simp[go_sem,t2,t12,t13,t14,hlt,gb2,nb]
    have e4:Ext nx' h' ((h'.put nx' (some (bx 24 [AV.int IntKind.i64 0,AV.bs ByteArray.empty,AV.int IntKind.i64 0,AV.int IntKind.i64 0,AV.sl0] false 0))).put nx' (some (bx 24 kids[k].cs false 0))):=((Ext.refl nx' h').put (Nat.le_refl _) _).put (Nat.le_refl _) _
    refine(ih kids[k] s' O1 _ _ (by omega) (by omega) hP3 (V.ext s' O1 h' nx' _ _ hJk (fun q hq=>e4 q (hO1 q hq).1) (by omega)) (by omega) (by omega) (by rw[e4 a (by omega)];exact ga2) (by rw[e4 b (by omega)];exact gb2)).mono ?_
    rintro v g2 n2 ⟨rfl,O2,hK2,hq2⟩
    have hKt:=(hKk.out.trans (zbp.ext (O:=O1) e4 (Nat.le_succ nx'))).trans hK2
    by_cases hs2:(zbd step s' kids[k]).2=true
    ·rw[if_pos hs2]at hq2
     have hd:=HD.out
     rw[if_pos hs2]at hd
     simp[go_sem,za0,hs2,t2,t12,t13,t14]
     refine hJ' (kids.length-(k+1)) _ (by omega) ⟨_,_,_,k+1,(zbd step s' kids[k]).1,O2,rfl,rfl,by omega,?_⟩
     simp(disch:=omega) [go_sem,t2,t12,t13,t14,zab]
     exact⟨Lib.hid (by rw[hv.out,hd]),Lib.hid hKt,hq2,Lib.hid (HP4.out hs2)⟩
    ·have hs2':(zbd step s' kids[k]).2=false:=by simpa using hs2
     rw[if_neg hs2]at hq2
     have hd:=HD.out
     rw[if_neg hs2]at hd
     simp[go_sem,za0,hs2',t2,t12,t13,t14]
     rw[hR,hv.out,hd]
     exact⟨rfl,O2,hKt,hq2⟩
   ·have hd:=hv.out
    rw[List.drop_of_length_le (by omega),zcz]at hd
    simp[go_sem,t2,t12,t13,t14,hlt]
    rw[hR,hd]
    exact⟨rfl,O1,hKk.out,hJk⟩
 ·have hs':(step s (.mk o nm cm m kids)).2=false:=by simpa using hs
  rw[if_neg hs]at hq
  simp[go_sem,za0,hs']
  rw[hR]
  have e2:zbd step s (.mk o nm cm m kids)=((step s (.mk o nm cm m kids)).1,false):=by rw[zbd,if_neg hs]
  rw[e2]
  exact⟨rfl,O',hK',hq⟩
end
end Go.Ev
namespace Go.Ev
open Go
section
variable (size b : Nat) (z : Option AV) (fs : List (Nat × Nat × Bool)) (v : AV) (cs : List AV) (h : Tr ABlk) (nx : Nat)
@[go_sem] theorem ya9:zcv (.mk .string size b z fs) (.ip (v::cs)) h nx=.val v h nx:=by simp[zcv,isA]
@[go_sem] theorem zZo (k:IntKind):zcv (.mk (.int k) size b z fs) (.ip (v::cs)) h nx=.val v h nx:=by simp[zcv,isA]
end
end Go.Ev
namespace Go.Ev
open Go.Proofs
noncomputable section
structure VisN (P:Program)(c:Cx)(S:Type)(step:S→Fm→S×Bool)(Pre:S→Fm→Prop) (i:Nat)(J JE:S→(Nat→Prop)→Tr ABlk→Nat→Prop):Prop where
 ext:∀s O h nx h' nx',J s O h nx→(∀k,O k→h'.get k=h.get k)→nx≤nx'→J s O h' nx'
 lt:∀s O h nx,J s O h nx→∀k,O k→k<nx
 yld:∀s O x h nx,Pre s x→J s O h nx→zgp P c i [.agg x.cs] h nx fun v g ny=>v=.bool (step s x).2∧∃O',zbp O h nx O' g ny∧(if (step s x).2 then J (step s x).1 O' g ny else JE (step s x).1 O' g ny)
theorem zEy {S:Type}{step:S→Fm→S×Bool}{Pre:S→Fm→Prop}{i:Nat}{J JE:S→(Nat→Prop)→Tr ABlk→Nat→Prop}(V:VisN Tryz.prog cx S step Pre i J JE)(f:Fm)(s:S)(O:Nat→Prop)(h:Tr ABlk) (nx:Nat)(hf:f.size≤1000000000)(hP:zpt step Pre s f)(hJ:J s O h nx):
  za7 Tryz.prog cx 133 [.yld i,.ip f.cs] h nx fun _ g ny=>∃O',zbp O h nx O' g ny∧(if (zbd step s f).2 then J (zbd step s f).1 O' g ny else JE (zbd step s f).1 O' g ny):=by
 have hlt:=V.lt s O h nx hJ
 have V':Vis Tryz.prog cx S step Pre i nx (nx+1) (fun s O h n=>J s O h n∧nx+1+1≤n∧∀k,O k→k≠nx∧k≠nx+1) JE:=by
  refine⟨fun s O h n h' n' hj hk hn=>⟨V.ext s O h n h' n' hj.1 hk hn,by omega,hj.2.2⟩,fun s O h n hj k hk=>⟨V.lt s O h n hj.1 k hk,hj.2.2 k hk⟩,fun s O x h n hp hj=>?_⟩
  refine(V.yld s O x h n hp hj.1).mono ?_
  rintro v g ny ⟨e,O',hK,hq⟩
  refine⟨e,O',hK,?_⟩
  split
  ·rename_i hs
   rw[if_pos hs]at hq
   refine⟨hq,by have:=hK.1;omega,fun k hk=>?_⟩
   rcases hK.2.2 k hk with h1 |h1
   ·exact hj.2.2 k h1
   ·omega
  ·rename_i hs
   rw[if_neg hs]at hq
   exact hq
 obtain⟨R,hR⟩:∃R:AV→Tr ABlk→Nat→Prop,R=fun _ g ny=>∃O',zbp O h nx O' g ny∧(if (zbd step s f).2 then J (zbd step s f).1 O' g ny else JE (zbd step s f).1 O' g ny):=⟨_,rfl⟩
 rw[← hR]
 refine zaa (sz:=8) (rs:=[]) za4 zsb rfl rfl rfl (by simp) ?_
 simp[go_sem]
 have e1:∀A B C,Ext nx h (((h.put nx A).put (nx+1) B).put (nx+1) C):=fun A B C=>(((Ext.refl nx h).put (Nat.le_refl _) _).put (by omega) _).put (by omega) _
 refine(zL7 V' 1000000000 f s O _ _ hf (Nat.le_refl _) hP ⟨V.ext s O h nx _ _ hJ (fun k hk=>e1 _ _ _ k (hlt k hk)) (by omega),Nat.le_refl _,fun k hk=>by have:=hlt k hk;omega⟩ (by omega) (by omega) (by simp[go_sem]) (by simp[go_sem])).mono ?_
 rintro v g ny ⟨rfl,O',hK,hq⟩
 simp[go_sem,za0]
 rw[hR]
 refine⟨O',(zbp.ext (O:=O) (e1 _ _ _) (by omega)).trans hK,?_⟩
 split
 ·rename_i hs
  rw[if_pos hs]at hq
  exact hq.1
 ·rename_i hs
  rw[if_neg hs]at hq
  exact hq
def zaj (l:List ByteArray):List AV:=l.map .bs
@[go_sem] theorem zl6 (l:List ByteArray):(zaj l).length=l.length:=by simp[zaj]
@[go_sem] theorem ybm (l:List ByteArray) (k:Nat)(hk:k<(zaj l).length):(zaj l)[k]=.bs (l[k]'(by simpa[zaj]using hk)):=by simp[zaj]
def zca (x:ByteArray):List ByteArray→Int
 |[]=>-1
 |y::l=>if x=y then 0 else (if zca x l<0 then -1 else zca x l+1)
def zhm (x:ByteArray)(l:List ByteArray) (k:Nat):Int:=if zca x (l.drop k)<0 then -1 else zca x (l.drop k)+k
theorem zHw {x:ByteArray}{l:List ByteArray}{k:Nat}(hk:k<l.length)(e:x=l[k]):zhm x l k=k:=by
 unfold zhm
 rw[List.drop_eq_getElem_cons hk,zca,if_pos e]
 simp
theorem zud (x:ByteArray):∀l,-1≤zca x l∧(zca x l<0→zca x l=-1)
 |[]=>by simp[zca]
 |y::l=>by
  have:=zud x l
  unfold zca
  split
  ·omega
  ·split <;> omega
theorem zOz {x:ByteArray}{l:List ByteArray}{k:Nat}(hk:k<l.length)(e:¬x=l[k]):zhm x l k=zhm x l (k+1):=by
 unfold zhm
 rw[List.drop_eq_getElem_cons hk,zca,if_neg e]
 have:=zud x (l.drop (k+1))
 repeat' split
 all_goals omega
theorem zRc {x:ByteArray}{l:List ByteArray}{k:Nat}(hk:l.length≤k):zhm x l k=-1:=by
 unfold zhm
 rw[List.drop_of_length_le hk,zca]
 simp
theorem zKm (x:ByteArray)(l:List ByteArray):zhm x l 0=zca x l:=by
 have:=zud x l
 unfold zhm
 rw[List.drop_zero]
 repeat' split
 all_goals omega
theorem zy8:cx.ft.get 132=some Tryz.f132:=za9 (by decide) (by kernel_rfl)
theorem zD0:cx.ft.get 87=some Tryz.f87:=za9 (by decide) (by kernel_rfl)
theorem zO9 (full:Bool)(l:List ByteArray)(x:ByteArray)(hl:l.length≤1000000000):Ret Tryz.prog cx 132 [.fz 1 full (zaj l),.bs x] (.int .i64 (zca x l)):=by
 refine Ret.mk fun h nx R hR=>zaa (sz:=19) (rs:=[.tmp 4]) za4 zy8 rfl rfl rfl (by simp) ?_
 simp[go_sem]
 refine zap (fun mm st=>∃tm k,st=.mk tm h nx []∧mm=l.length-k∧k≤l.length∧tm.get 0=some (.fz 1 full (zaj l))∧tm.get 1=some (.bs x)∧tm.get 7=some (.int .i64 (l.length:Int))∧tm.get 8=some (.int .i64 (k:Int))∧RowKit.Hid (zca x l=zhm x l k)) ⟨l.length,_,0,rfl,by simp,by simp,?_⟩ ?_
 ·simp[go_sem]
  exact Lib.hid (zKm x l).symm
 ·rintro mm st ⟨tm,k,rfl,rfl,hk,t0,t1,t7,t8,hv⟩ J hJ
  refine zag za4 _ ?_
  by_cases hlt:k<l.length
  ·by_cases he:x=l[k]
   ·have:=zHw hlt he
    have e':l[k]=x:=he.symm
    simp[go_sem,t0,t1,t7,t8,hlt,e']
    refine hR _ _ _ (Ext.refl _ _) (Fz.eq rfl ?_)
    rw[hv.out,this]
   ·have:=zOz hlt he
    have HM:=Lib.hid this
    clear this
    simp[go_sem,t0,t1,t7,t8,hlt,he]
    refine hJ (l.length-(k+1)) _ (by omega) ⟨_,k+1,rfl,rfl,by omega,?_⟩
    simp(disch:=omega) [go_sem,t0,t1,t7,t8,zab]
    exact Lib.hid (by rw[hv.out,HM.out])
  ·have:=zRc (x:=x) (l:=l) (k:=k) (by omega)
   simp[go_sem,t0,t1,t7,t8,hlt]
   refine hR _ _ _ (Ext.refl _ _) (Fz.eq rfl ?_)
   rw[hv.out,this]
theorem zyt (full:Bool)(l:List ByteArray)(x:ByteArray)(hl:l.length≤1000000000):Ret Tryz.prog cx 87 [.fz 1 full (zaj l),.bs x] (.bool (decide (0≤zca x l))):=by
 refine Ret.mk fun h nx R hR=>zaa (sz:=9) (rs:=[.tmp 4]) za4 zD0 rfl rfl rfl (by simp) ?_
 simp[go_sem]
 refine Ret.use (zO9 full l x hl) ?_
 simp[go_sem,za0]
 exact hR _ _ _ (Ext.refl _ _) (Fz.eq rfl rfl)
end
end Go.Ev
namespace Go.Ev
open Go
noncomputable section
variable {P : Program} {c : Cx}
theorem za7.ofLe {f:FuncId}{args:List AV}{h:Tr ABlk}{nx:Nat}{R:AV→Tr ABlk→Nat→Prop}(hw:c.G.n≤nx→za7 P c f args h nx R):za7 P c f args h nx R:=
 fun σ w A ok hA=>hw ok.le σ w A ok hA
def zub (B:Option ABlk) (size o m:Nat):Option (Nat×List AV):=match B with
 |some (.cells _ n c _ _)=>match Nat.ble (Nat.add o (Nat.mul m size)) n with
   |true=>match zci c (Nat.mul m size) o with
    |some l=>some (m,l)
    |none=>none
   |false=>none
 |_=>none
section
variable (size i o m cp es : Nat) (opn full : Bool) (xs : List AV) (h : Tr ABlk) (nx : Nat)
@[go_sem] theorem ya8:zfo size (.sl i o m cp opn) h=zub (h.get i) size o m:=rfl
@[go_sem] theorem zUy:zfo size .sl0 h=some (0,[]):=rfl
@[go_sem] theorem zSd:zfo size (.fz size full xs) h=some (xs.length,xs.flatMap AV.cells):=by simp[zfo]
@[go_sem] theorem ya6 (t:TypeId)(l:List AV)(opn':Bool) (esz:Nat)(hl:o+m * size≤l.length):zub (some (bx t l opn' esz)) size o m=some (m,(l.drop o).take (m * size)):=by
 have e:Nat.ble (Nat.add o (Nat.mul m size)) l.length=true:=Nat.ble_eq_true_of_le hl
 have e2:=zpj l (m * size) o hl
 have e3:zci (zbh l .nil 0) (Nat.mul m size) o=some ((l.drop o).take (m * size)):=e2
 simp only[zub,bx,e,e3]
end
def zf0 (b:Bool) (m:Nat)(news:List AV) (e size:Nat)(s:AV)(h:Tr ABlk) (nx:Nat):R:=match b with
 |false=>.fail
 |true=>match s with
      |.sl0=>match Nat.beq m 0 with
       |true=>.val .sl0 h nx
       |false=>match Nat.ble m 16777216 with
        |true=>.val (.sl nx 0 m 0 true) (h.put nx (some (bx e news true size))) (nx+1)
        |false=>.fail
      |.fz es full xs=>match Nat.beq es size && full with
       |false=>.fail
       |true=>match Nat.beq m 0 with
        |true=>.val (.fz es true xs) h nx
        |false=>match Nat.ble (Nat.add xs.length m) 16777216 with
         |true=>.val (.sl nx 0 (xs.length+m) 0 true) (h.put nx (some (bx e (xs.flatMap AV.cells++news) true size))) (nx+1)
         |false=>.fail
      |.sl i o len cp opn=>match h.get i with
       |some (.cells e' n cs opn' esz)=>match Nat.ble (Nat.add len m) 16777216 with
        |false=>.fail
        |true=>match opn with
         |true=>match Nat.beq o 0 && Nat.beq cp 0 && opn' && Nat.beq esz size && Nat.beq e' e && Nat.beq (Nat.mul len size) n with
          |true=>.val (.sl nx 0 (len+m) 0 true) ((h.put i none).put nx (some (bx e (toL cs n++news) true size))) (nx+1)
          |false=>.fail
         |false=>match Nat.beq cp len && Nat.ble (Nat.add o (Nat.mul len size)) n with
          |false=>.fail
          |true=>match Nat.beq m 0 with
           |true=>.val (.sl i o len cp false) h nx
           |false=>.val (.sl nx 0 (len+m) 0 true) (h.put nx (some (bx e (((toL cs n).drop o).take (Nat.mul len size)++news) true size))) (nx+1)
       |_=>.fail
      |_=>.fail
def zrz (b:Bool)(src:Option (Nat×List AV)) (e size:Nat)(s:AV)(h:Tr ABlk) (nx:Nat):R:=match b with
 |false=>.fail
 |true=>match src with
  |none=>.fail
  |some (m,news)=>zf0 (zba news) m news e size s h nx
def zro (B:Option ABlk) (i len m:Nat)(news:List AV) (e size:Nat)(h:Tr ABlk) (nx:Nat):R:=match B with
 |some (.cells e' n cs opn' esz)=>match Nat.ble (Nat.add len m) 16777216 with
  |false=>.fail
  |true=>match Nat.beq 0 0 && Nat.beq 0 0 && opn' && Nat.beq esz size && Nat.beq e' e && Nat.beq (Nat.mul len size) n with
   |true=>.val (.sl nx 0 (len+m) 0 true) ((h.put i none).put nx (some (bx e (toL cs n++news) true size))) (nx+1)
   |false=>.fail
 |_=>.fail
section
variable (e et size bytes m len i a1 a2 b1 b2 : Nat) (a3 b3 : Option AV) (a4 b4 c4 : List (Nat × Nat × Bool)) (du d2 : TypeDesc) (z s x : AV) (news l : List AV) (h : Tr ABlk) (nx : Nat)
@[go_sem] theorem zW6:znx (.mk (.slice e) a1 a2 a3 a4) (.mk du b1 b2 b3 b4) (some (.mk d2 size bytes (some z) c4)) et s x h nx=zrz (Nat.beq e et && zk1 du && Nat.ble bytes 65536 && Nat.ble 1 size) (zfo size x h) e size s h nx:=by
 simp only[znx,zrz,zf0]
 split
 ·rename_i hb;simp only[hb]
 ·rename_i hb
  simp only[hb]
  cases zfo size x h with
  |none=>rfl
  |some p=>
   obtain⟨m,news⟩:=p
   simp only
   cases zba news <;> rfl
@[go_sem] theorem zAw:zrz true (some (m,news)) e size s h nx=zf0 (zba news) m news e size s h nx:=rfl
@[go_sem] theorem zOn (h0:m≠0)(h1:m≤16777216):zf0 true m news e size .sl0 h nx=.val (.sl nx 0 m 0 true) (h.put nx (some (bx e news true size))) (nx+1):=by
 have e0:Nat.beq m 0=false:=by cases m;exact absurd rfl h0;rfl
 simp only[zf0,e0,Nat.ble_eq_true_of_le h1]
@[go_sem] theorem ycj:zf0 true 0 news e size .sl0 h nx=.val .sl0 h nx:=rfl
@[go_sem] theorem zDk:zf0 true m news e size (.sl i 0 len 0 true) h nx=zro (h.get i) i len m news e size h nx:=by
 simp only[zf0,zro]
@[go_sem] theorem zCs (h1:len * size=l.length)(h2:len+m≤16777216):zro (some (bx e l true size)) i len m news e size h nx=.val (.sl nx 0 (len+m) 0 true) ((h.put i none).put nx (some (bx e (l++news) true size))) (nx+1):=by
 have e1:Nat.ble (Nat.add len m) 16777216=true:=Nat.ble_eq_true_of_le h2
 have e2:Nat.beq (Nat.mul len size) l.length=true:=by rw[show Nat.mul len size=l.length from h1];exact Nat.beq_refl _
 have e3:toL (zbh l .nil 0) l.length=l:=by
  apply List.ext_getElem?
  intro k
  by_cases hk:k<l.length
  ·simp[toL,hk,zbt]
  ·simp[toL,hk]
 simp only[zro,bx,e1,e2,Nat.beq_refl,Bool.and_self,e3]
@[go_sem] theorem zYj:zk1 .string=true:=rfl
@[go_sem] theorem zVa:zk1 (.slice e)=true:=rfl
end
end
end Go.Ev
namespace Go.Ev
open Go.Proofs
noncomputable section
def slB (l:List ByteArray):AV:=if l=[] then .sl0 else .fz 1 false (zaj l)
def zei (s:List ByteArray)(x:Fm):List ByteArray×Bool:=match x with
 |.mk o n _ _ _=>(if o=4∧zca n s<0 then s++[n] else s,true)
theorem zCv (s:List ByteArray)(x:Fm):(zei s x).1.length≤s.length+1:=by
 cases x
 simp only[zei]
 split <;> simp
theorem zIc:cx.ft.get 39=some Tryz.f39:=za9 (by decide) (by kernel_rfl)
def zrx (a L:Nat)(s:List ByteArray)(O:Nat→Prop)(h:Tr ABlk):Prop:=
 (s=[]∧h.get a=some (bx 25 [.sl0] false 0))∨(s≠[]∧∃b,b≠a∧b≠L∧a≤b∧O b∧h.get a=some (bx 25 [.sl b 0 s.length 0 true] false 0)∧h.get b=some (bx 9 (zaj s) true 1))
theorem zrx.ext {a L:Nat}{s:List ByteArray}{O:Nat→Prop}{h g:Tr ABlk}(hO:zrx a L s O h)(o1:O a)(hne:a≠L)(hk:∀k,O k→k≠L→g.get k=h.get k):zrx a L s O g:=by
 rcases hO with⟨e,g1⟩ |⟨e,b,b1,b2,b3,b4,g1,g2⟩
 ·exact .inl ⟨e,by rw[hk _ o1 hne];exact g1⟩
 ·exact .inr ⟨e,b,b1,b2,b3,b4,by rw[hk _ o1 hne];exact g1,by rw[hk _ b4 b2];exact g2⟩
def JT (nx:Nat)(rec:ABlk)(s:List ByteArray)(O:Nat→Prop)(h:Tr ABlk) (n:Nat):Prop:=
 zrx (nx+1) (nx+1+1+1) s O h∧h.get (nx+1+1+1)=some rec∧O (nx+1)∧O (nx+1+1+1)∧(∀k,O k→k<n∧nx<k)∧nx+4≤n
theorem JT.keep {nx:Nat}{rec:ABlk}{s:List ByteArray}{O:Nat→Prop}{h g:Tr ABlk}{n m:Nat}(hj:JT nx rec s O h n)(hle:n≤m)(hg:∀k,k<n→k≠nx+1+1+1→g.get k=h.get k)(hL:g.get (nx+1+1+1)=some rec):zbp O h n O g m∧JT nx rec s O g m:=by
 obtain⟨j1,j2,j3,j4,j5,j6⟩:=hj
 refine⟨⟨hle,fun k hk ho=>hg k hk (fun e=>ho (e ▸ j4)),fun k hk=>.inl hk⟩,j1.ext j3 (by omega) (fun k hk hne=>hg k (j5 k hk).1 hne),hL,j3,j4,fun k hk=>⟨by have:=(j5 k hk).1;omega,(j5 k hk).2⟩,by omega⟩
theorem JT.grow {nx:Nat}{rec:ABlk}{s s':List ByteArray}{O:Nat→Prop}{h g:Tr ABlk}{n m q:Nat}(hj:JT nx rec s O h n)(h1:n≤q)(h2:q<m)(hs:s'≠[])(hg:∀k,k<n→¬O k→g.get k=h.get k)(hL:g.get (nx+1+1+1)=some rec)(ga:g.get (nx+1)=some (bx 25 [.sl q 0 s'.length 0 true] false 0))(gq:g.get q=some (bx 9 (zaj s') true 1)):
  zbp O h n (fun k=>O k∨k=q) g m∧JT nx rec s' (fun k=>O k∨k=q) g m:=by
 obtain⟨j1,j2,j3,j4,j5,j6⟩:=hj
 refine⟨⟨by omega,fun k hk ho=>hg k hk ho,fun k hk=>?_⟩,.inr ⟨hs,q,by omega,by omega,by omega,.inr rfl,ga,gq⟩,hL,.inl j3,.inl j4,fun k hk=>?_,by omega⟩
 ·rcases hk with hk |hk
  ·exact .inl hk
  ·exact .inr (by omega)
 ·rcases hk with hk |hk
  ·exact⟨by have:=(j5 k hk).1;omega,(j5 k hk).2⟩
  ·omega
theorem zie {i:Nat}{K:AV→Tr ABlk→Nat→Prop}{tm tmR:Tr AV}{h:Tr ABlk}{nx sz db:Nat}{ds:List DE}{fn:FuncId}{st:LoopState}{pend:Option Code}{ps:Array Tmp}{x y:Code}{rb rec:ABlk}(hb:ABlk.loop st pend fn sz tmR ps x y db=rb)(hi:h.get i=some rb)(hr:ABlk.loop .ready none fn sz tmR ps x y db=rec)(hk:K (.bool true) (h.put i (some rec)) nx):zui i K .norm (.mk tm h nx ds):=by
 subst hb
 subst hr
 exact⟨_,_,_,_,_,_,_,_,_,hi,hk⟩
theorem zu5 {Q:AX→AS→Prop}{v:AV}{tm tmR:Tr AV}{g:Tr ABlk}{nx ny sz db:Nat}{ds:List DE}{fn:FuncId}{ps:Array Tmp}{x y:Code}{rec:ABlk}(hr:ABlk.loop .ready none fn sz tmR ps x y db=rec)(hi:g.get (nx+1)=some rec)(hk:Q .norm (.mk tm (g.put (nx+1) none) ny (.mark nx::ds))):zx4 tm ds nx Q v g ny:=by
 subst hr
 exact⟨_,_,_,_,_,_,_,_,_,hi,by simp,hk⟩
theorem zvv:∀l:List ByteArray,zfr 1 (zaj l) (zaj l)
 |[]=>rfl
 |x::l=>⟨[.bs x],zaj l,rfl,rfl,rfl,.inr rfl,zvv l⟩
theorem zDf {g:Tr ABlk}{nx:Nat}:∀l:List ByteArray,FzL g nx (zaj l) (zaj l)
 |[]=>.nil
 |x::l=>.cons _ _ _ _ (.bs x) (zDf l)
theorem fzB {g:Tr ABlk}{nx b:Nat}{s:List ByteArray}{cp esz:Nat}{op opn:Bool}(hb:nx≤b)(hg:g.get b=some (bx 9 (zaj s) opn esz)):Fz g nx (.sl b 0 s.length cp op) (.fz 1 false (zaj s)):=
 .slz b 0 _ cp op 9 _ _ opn esz 1 (zaj s) (zaj s) (zaj s) hb hg (by simp) (fun j hj=>by rw[Nat.zero_add,zbt]) (zDf s) (zvv s) (zl6 s)
theorem zU8 (x:ByteArray):Ret Tryz.prog cx 132 [.sl0,.bs x] (.int .i64 (-1)):=by
 refine Ret.mk fun h nx R hR=>zaa (sz:=19) (rs:=[.tmp 4]) za4 zy8 rfl rfl rfl (by simp) ?_
 simp[go_sem]
 refine zap (fun mm st=>∃tm,st=.mk tm h nx []∧mm=0∧tm.get 7=some (.int .i64 0)∧tm.get 8=some (.int .i64 0)) ⟨0,_,rfl,rfl,?_⟩ ?_
 ·simp[go_sem]
 ·rintro mm st ⟨tm,rfl,rfl,t7,t8⟩ J hJ
  refine zag za4 _ ?_
  simp[go_sem,t7,t8]
  exact hR _ _ _ (Ext.refl _ _) (Fz.int _ _)
theorem zzi (x:ByteArray):Ret Tryz.prog cx 87 [.sl0,.bs x] (.bool false):=by
 refine Ret.mk fun h nx R hR=>zaa (sz:=9) (rs:=[.tmp 4]) za4 zD0 rfl rfl rfl (by simp) ?_
 simp[go_sem]
 refine Ret.use (zU8 x) ?_
 simp[go_sem,za0]
 exact hR _ _ _ (Ext.refl _ _) (Fz.bool _)
theorem zF6 (f:Fm)(hf:f.size≤16777216):Ret Tryz.prog cx 39 [.agg f.cs] (slB (zbd zei [] f).1):=by
 refine Ret.mk fun h nx R hR=>za7.ofLe fun hG=>zaa (sz:=24) (rs:=[.tmp 2]) za4 zIc rfl rfl rfl (by simp) ?_
 simp[go_sem]
 refine Ret.use (zxf f) ?_
 simp[go_sem,za0]
 obtain⟨fn,_⟩:∃fn:FuncId,fn=fn:=⟨0,rfl⟩
 refine zqj za4 zsb (first:=[]) (cap:=[.ip f.cs]) (fn0:=fn) (by simp[go_sem]) ?_
 generalize hrec:ABlk.loop LoopState.ready none fn 24 _ _ _ _ _=rec
 refine(zEy (S:=List ByteArray) (step:=zei) (Pre:=fun s _=>s.length<16777216) (i:=nx+1+1+1)
  (J:=JT nx rec) (JE:=fun _ _ _ _=>False) ?_ f [] (fun k=>k=nx+1∨k=nx+1+1+1) _ _ (by omega) (zun (mu:=List.length) (N:=16777216) zCv (fun _ _ h=>h) [] f (by simpa using hf)) ?_).mono ?_
 ·refine⟨?_,fun s O h' n hj k hk=>(hj.2.2.2.2.1 k hk).1,?_⟩
  ·rintro s O h1 n1 h2 n2 ⟨hO,hL,o1,o2,ho,hn⟩ hk hle
   exact⟨hO.ext o1 (by omega) (fun k h1 _=>hk k h1),by rw[hk _ o2];exact hL,o1,o2,fun k hk'=>⟨by have:=(ho k hk').1;omega,(ho k hk').2⟩,by omega⟩
  ·intro s O x h1 n1 hp hj
   obtain⟨K,hK⟩:∃K:AV→Tr ABlk→Nat→Prop,K=fun v g ny=>v=.bool (zei s x).2∧∃O',zbp O h1 n1 O' g ny∧(if (zei s x).2 then JT nx rec (zei s x).1 O' g ny else False):=⟨_,rfl⟩
   rw[← hK]
   have hj':=hj
   obtain⟨hO,hL,o1,o2,ho,hn⟩:=hj'
   rw[← hrec]at hL
   refine zow hL rfl (by simp) (zag za4 _ ?_)
   have na:¬nx+1=n1:=by omega
   have nb:¬nx+1+1=n1:=by omega
   have nc:¬nx=n1:=by omega
   have nd:¬nx=n1+1:=by omega
   have nl:¬nx+1+1+1=n1:=by omega
   have nl':¬n1=nx+1+1+1:=by omega
   have nb':¬n1=nx+1+1:=by omega
   have na':¬n1=nx+1:=by omega
   have ne:¬nx+1+1=nx:=by omega
   have nf:¬n1+1=nx:=by omega
   have ng:¬n1=nx:=by omega
   cases x with
   |mk o nm cm m kids=>
   simp[go_sem,na,nl,putP,Fm.cs]
   refine⟨none,fn,24,_,_,_,_,nx+1+1,by simp[go_sem,nl];exact hL,zag za4 _ ?_⟩
   generalize hbz:ABlk.loop LoopState.busy none fn 24 _ _ _ _ _=rbz
   by_cases h4:o=4
   ·rcases hO with⟨rfl,g1⟩ |⟨e,b,b1,b2,b3,b4,g1,g2⟩
    ·simp[go_sem,na,nl,nl',h4,g1]
     refine Ret.use (zzi nm) ?_
     simp[go_sem,za0,na,nb,nc,nd,nl,nl',nb',na',h4,g1]
     refine zie hbz (by simp[go_sem,nb,na,nc,nd,ne,nf,ng]) hrec ?_
     rw[hK,zei,if_pos ⟨h4,by simp[zca]⟩]
     refine⟨rfl,(fun k=>O k∨k=n1+1+1),?_⟩
     rw[if_pos rfl]
     refine hj.grow (by omega) (by omega) (by simp) ?_ ?_ ?_ ?_
     ·intro k hk hno
      have k1:¬k=nx+1:=fun e=>hno (e ▸ o1)
      have k2:¬k=nx+1+1+1:=fun e=>hno (e ▸ o2)
      have k3:¬k=n1:=by omega
      have k4:¬k=n1+1:=by omega
      have k5:¬k=n1+1+1:=by omega
      simp[go_sem,k1,k2,k3,k4,k5]
     ·simp[go_sem]
     ·simp[go_sem,na,nb,nc,nd]
     ·simp[go_sem,na',nb',zaj,na,nb,nc,nd,ne,nf,ng]
    ·have b5:=(ho b b4).1
     have c0:¬b=n1:=by omega
     have c1:¬b=n1+1:=by omega
     have c2:¬n1+1=b:=by omega
     have c3:¬b=nx+1+1+1:=b2
     have c4:¬nx+1=b:=fun e=>b1 e.symm
     have c5:¬nx+1+1+1=b:=fun e=>b2 e.symm
     simp[go_sem,na,nl,nl',h4,g1]
     refine Ret.useB zgh (zyt false s nm (by omega)) rfl (.cons _ _ _ _ (fzB (opn:=true) (esz:=1) (by omega) ?_) (.cons _ _ _ _ (.bs _) .nil)) ?_
     ·simp[go_sem,c0,c3,g2]
     ·by_cases hx:zca nm s<0
      ·have hx':¬0≤zca nm s:=by omega
       have hp1:s.length+1≤16777216:=by omega
       simp[go_sem,za0,na,nb,nc,nd,nl,nl',nb',na',h4,g1,g2,hx',hp1,c0,c1,c2,c3,c4,c5]
       refine zie hbz (by simp[go_sem,nb,na,nc,nd,ne,nf,ng,c0,c1,c2,c3,c4,c5]) hrec ?_
       rw[hK,zei,if_pos ⟨h4,hx⟩]
       refine⟨rfl,(fun k=>O k∨k=n1+1+1),?_⟩
       rw[if_pos rfl]
       refine hj.grow (by omega) (by omega) (by simp) ?_ ?_ ?_ ?_
       ·intro k hk hno
        have k1:¬k=nx+1:=fun e=>hno (e ▸ o1)
        have k2:¬k=nx+1+1+1:=fun e=>hno (e ▸ o2)
        have k3:¬k=n1:=by omega
        have k4:¬k=n1+1:=by omega
        have k5:¬k=n1+1+1:=by omega
        have k6:¬k=b:=fun e=>hno (e ▸ b4)
        simp[go_sem,k1,k2,k3,k4,k5,k6]
       ·simp[go_sem]
       ·simp[go_sem,na,nb,nc,nd,ne,nf,ng,c0,c1,c2,c3,c4,c5]
       ·simp[go_sem,na',nb',zaj,na,nb,nc,nd,ne,nf,ng,c0,c1,c2,c3,c4,c5]
      ·have hx':0≤zca nm s:=by omega
       simp[go_sem,za0,na,nb,nc,nd,nl,nl',nb',na',h4,g1,hx']
       refine zie hbz (by simp[go_sem,nb,na,nc,nd,ne,nf,ng]) hrec ?_
       rw[hK,zei,if_neg (fun q=>hx q.2)]
       refine⟨rfl,O,?_⟩
       rw[if_pos rfl]
       refine hj.keep (by omega) (fun k hk hne=>?_) (by simp[go_sem])
       have k3:¬k=n1:=by omega
       simp[go_sem,hne,k3]
   ·simp[go_sem,na,nl,nl',h4]
    refine zie hbz (by simp[go_sem,nb,na,nc,nd,ne,nf,ng]) hrec ?_
    rw[hK,zei,if_neg (fun q=>h4 q.1)]
    refine⟨rfl,O,?_⟩
    rw[if_pos rfl]
    refine hj.keep (by omega) (fun k hk hne=>?_) (by simp[go_sem])
    have k3:¬k=n1:=by omega
    simp[go_sem,hne,k3]
 ·refine⟨.inl ⟨rfl,by simp[go_sem]⟩,by simp[go_sem],.inl rfl,.inr rfl,fun k hk=>by omega,by omega⟩
 ·rintro v g ny ⟨O',hK,hq⟩
  by_cases hs:(zbd zei [] f).2=true
  ·rw[if_pos hs]at hq
   obtain⟨hO,hL,o1,o2,ho,hn⟩:=hq
   refine zu5 hrec hL ?_
   have gd:g.get (nx+1+1)=some .dfr:=by
    rw[hK.2.1 (nx+1+1) (by omega) (by omega)]
    simp[go_sem]
   have na:¬nx+1=nx+1+1+1:=by omega
   have ex:Ext nx h ((g.put (nx+1+1+1) none).put (nx+1+1) none):=by
    intro k hk
    have k0:¬k=nx:=by omega
    have k1:¬k=nx+1:=by omega
    have k2:¬k=nx+1+1:=by omega
    have k3:¬k=nx+1+1+1:=by omega
    have:=hK.2.1 k (by omega) (by omega)
    simp[go_sem,k0,k1,k2,k3]at this ⊢
    exact this
   rcases hO with⟨e,g1⟩ |⟨e,b,b1,b2,b3,b4,g1,g2⟩
   ·simp[go_sem,gd,g1,na]
    refine hR _ _ _ ex ?_
    rw[slB,if_pos e]
    exact .sl0
   ·have b5:¬b=nx+1+1:=by
     intro q
     rw[q,gd]at g2
     cases g2
    simp[go_sem,gd,g1,g2,na]
    refine hR _ _ _ ex ?_
    rw[slB,if_neg e]
    exact fzB (opn:=true) (esz:=1) (by omega) (by simp[go_sem,b2,b5,g2])
  ·rw[if_neg hs]at hq
   exact hq.elim
end
end Go.Ev
