/- Texts T45 T46. -/
import Derived.Test.YtkdnmldmffkkoaaGreatDoorLays
import Derived.Test.YtkdnmldmffkkoaaGreatDoorP20
set_option linter.unusedSimpArgs false
set_option linter.unusedVariables false
set_option maxRecDepth 100000
namespace Go.Ev
open Go.Proofs
noncomputable section
attribute [-go_sem] zaf zac zay
theorem zHy:cx.ft.get 206=some Tryz.f206:=za9 (by decide) (by kernel_rfl)
def zex:List Int→Nat→List (AV×AV×Nat)
 |[],_=>[]
 |x::l,n=>(.int .i64 x,.int .i64 (n:Int),n)::zex l (n+1)
theorem zyn (x:Int):∀(l:List Int) (n:Nat),zex l n++[(.int .i64 x,.int .i64 ((n+l.length:Nat):Int),n+l.length)]=zex (l++[x]) n
 |[],n=>rfl
 |y::l,n=>by
  have:=zyn x l (n+1)
  simp only[zex,List.cons_append,List.length_cons]
  rw[← this,show n+(l.length+1)=n+1+l.length by omega]
def zhu (x:Int):List Int→Nat→Option (Nat×AV)
 |[],_=>none
 |y::l,i=>if x=y then some (i,.int .i64 (i:Int)) else zhu x l (i+1)
theorem zCg (x:Int):∀(l:List Int) (n:Nat),ze8 (.int .i64) (.int .i64 x) (zex l n) n=some (zhu x l n)
 |[],n=>rfl
 |y::l,n=>by
  rw[zex,zmx,zhu]
  by_cases e:x=y
  ·simp[zdz,e,zuw,zgi]
  ·have e2:(x == y)=false:=by simpa using e
   simp[zdz,e,e2,zuw,zgi,fN_eq,zCg x l (n+1)]
@[go_sem] theorem zZc (x:Int)(l:List Int):ze8 (.int .i64) (.int .i64 x) (zex l 0) 0=some (zhu x l 0):=zCg x l 0
theorem zsn {x:Int}:∀{l:List Int}(i:Nat),¬x∈l→zhu x l i=none
 |[],_,_=>rfl
 |y::l,i,h=>by
  simp at h
  rw[zhu,if_neg h.1,zsn (i+1) h.2]
theorem ztw {x:Int}:∀{l:List Int}(i:Nat),x∈l→zhu x l i=some (i+l.findIdx (fun y=>decide (y=x)),.int .i64 ((i+l.findIdx (fun y=>decide (y=x)):Nat):Int))
 |[],_,h=>by cases h
 |y::l,i,h=>by
  rw[zhu,List.findIdx_cons]
  by_cases e:x=y
  ·subst e
   simp
  ·have e2:¬y=x:=fun q=>e q.symm
   have hm:x∈l:=by
    rcases List.mem_cons.1 h with h1 |h1
    ·exact absurd h1 e
    ·exact h1
   rw[if_neg e,ztw (i+1) hm]
   simp only[e2,decide_false,cond_false]
   rw[show i+1+l.findIdx (fun y=>decide (y=x))=i+(l.findIdx (fun y=>decide (y=x))+1) by omega]
def zs9 (o:List Int) (x:Int):Nat:=o.findIdx fun y=>decide (y=x)
def ze0 (L:List Nd):Nat→List Int→Int→List Int
 |0,o,_=>o
 |f+1,o,i=>if i∈o then o else ((L.getD i.toNat ⟨0,[],[],false⟩).kids).foldl (ze0 L f) (o++[i])
def WK (L:List Nd):Prop:=∀n∈L,∀x∈n.kids,0≤x∧x<L.length
def OkO (L:List Nd)(o:List Int):Prop:=o.Nodup∧∀x∈o,0≤x∧x<(L.length:Int)
theorem zBc:∀{l m:List Nat},l.Nodup→(∀x∈l,x∈m)→l.length≤m.length
 |[],m,_,_=>by simp
 |x::t,m,h,hs=>by
  have hx:x∈m:=hs x List.mem_cons_self
  obtain⟨h1,h2⟩:=List.nodup_cons.1 h
  have:=zBc (l:=t) (m:=m.erase x) h2 fun y hy=>(List.mem_erase_of_ne (fun e:y=x=>h1 (e ▸ hy))).2 (hs y (List.mem_cons_of_mem _ hy))
  rw[List.length_erase_of_mem hx]at this
  have:=List.length_pos_of_mem hx
  simp only[List.length_cons]
  omega
theorem OkO.len {L:List Nd}{o:List Int}(h:OkO L o):o.length≤L.length:=by
 have h1:(o.map Int.toNat).Nodup:=by
  refine List.pairwise_map.2 (h.1.imp_of_mem fun {a b} ha hb hne=>?_)
  have:=h.2 a ha
  have:=h.2 b hb
  omega
 have h2:∀x∈o.map Int.toNat,x∈List.range L.length:=by
  intro x hx
  obtain⟨y,hy,rfl⟩:=List.mem_map.1 hx
  have:=h.2 y hy
  exact List.mem_range.2 (by omega)
 have:=zBc h1 h2
 simpa using this
theorem OkO.snoc {L:List Nd}{o:List Int}{i:Int}(h:OkO L o)(hi:¬i∈o)(h1:0≤i∧i<(L.length:Int)):OkO L (o++[i]):=by
 refine⟨List.nodup_append.2 ⟨h.1,by simp,?_⟩,?_⟩
 ·intro x hx y hy e
  simp at hy
  subst hy
  exact hi (e ▸ hx)
 ·intro x hx
  rcases List.mem_append.1 hx with q |q
  ·exact h.2 x q
  ·simp at q;subst q;exact h1
theorem zkr {L:List Nd}(hw:WK L):∀(f:Nat)(o:List Int) (i:Int),OkO L o→0≤i∧i<(L.length:Int)→OkO L (ze0 L f o i)∧o.length≤(ze0 L f o i).length
 |0,o,i,h,hi=>⟨h,Nat.le_refl _⟩
 |f+1,o,i,h,hi=>by
  rw[ze0]
  by_cases hm:i∈o
  ·rw[if_pos hm];exact⟨h,Nat.le_refl _⟩
  ·rw[if_neg hm]
   have h1:=h.snoc hm hi
   have key:∀(ks:List Int),(∀x∈ks,0≤x∧x<(L.length:Int))→∀o1,OkO L o1→OkO L (ks.foldl (ze0 L f) o1)∧o1.length≤(ks.foldl (ze0 L f) o1).length:=by
    intro ks
    induction ks with
    |nil=>intro _ o1 h1;exact⟨h1,Nat.le_refl _⟩
    |cons k ks ih=>
     intro hk o1 h1
     obtain⟨a1,a2⟩:=zkr hw f o1 k h1 (hk k List.mem_cons_self)
     obtain⟨b1,b2⟩:=ih (fun x hx=>hk x (List.mem_cons_of_mem _ hx)) _ a1
     exact⟨b1,by simp only[List.foldl_cons];omega⟩
   have hk:∀x∈(L.getD i.toNat ⟨0,[],[],false⟩).kids,0≤x∧x<(L.length:Int):=by
    have hl:i.toNat<L.length:=by omega
    rw[List.getD_eq_getElem?_getD,List.getElem?_eq_getElem hl]
    exact hw _ (List.getElem_mem hl)
   obtain⟨a1,a2⟩:=key _ hk _ h1
   refine⟨a1,?_⟩
   rw[List.length_append]at a2
   simp only[List.length_cons,List.length_nil]at a2
   omega
structure VsSt (b p q:Nat)(o:List Int)(h:Tr ABlk) (nx:Nat):Prop where
 lb:b+6≤nx
 gm:h.get b=some (bx 182 [.ptr p 0] false 0)
 ge:h.get (b+2)=some (.map (zex o 0) o.length)
 gp:h.get (b+3)=some (bx 234 [.map (b+2)] false 0)
 gv:h.get (b+5)=some (bx 235 [.func 206 [] [.ptr (b+3) 0,.ptr (b+4) 0,.ptr b 0,.ptr (b+5) 0]] false 0)
 go:(o=[]∧h.get (b+4)=some (bx 40 [.sl0] false 0))∨(o≠[]∧b+6≤q∧q<nx∧h.get (b+4)=some (bx 40 [.sl q 0 o.length 0 true] false 0)∧h.get q=some (bx 3 (za5 o) true 1))
def Low (b:Nat)(h g:Tr ABlk):Prop:=Ext b h g∧g.get (b+1)=h.get (b+1)
theorem Low.trans {b:Nat}{h g f:Tr ABlk}(x:Low b h g)(y:Low b g f):Low b h f:=⟨fun k hk=>(y.1 k hk).trans (x.1 k hk),y.2.trans x.2⟩
set_option maxHeartbeats 2000000 in
theorem zS8 (L:List Nd) (b p:Nat)(hw:WK L)(hkl:∀n∈L,n.kids.length≤1000000)(hl:L.length≤1000000):∀(f:Nat)(o:List Int)(h:Tr ABlk) (nx q:Nat) (i:Int)(R:AV→Tr ABlk→Nat→Prop),zcx (fun k=>k<b) h b p L→VsSt b p q o h nx→OkO L o→0≤i∧i<(L.length:Int)→L.length<f+o.length→
  (∀g ny q',Low b h g→nx≤ny→VsSt b p q' (ze0 L f o i) g ny→R (.tup []) g ny)→za7 Tryz.prog cx 206 [.int .i64 i,.ptr (b+3) 0,.ptr (b+4) 0,.ptr b 0,.ptr (b+5) 0] h nx R:=by
 intro f
 induction f with
 |zero=>
  intro o h nx q i R hM hS hO hi hf
  have:=hO.len
  omega
 |succ f ih=>
 intro o h nx q i R hM hS hO hi hf hR
 refine zaa (sz:=43) (rs:=[]) za4 zHy rfl rfl rfl (by simp) ?_
 rw[ze0]at hR
 obtain⟨lb,gm,ge,gp,gv,go⟩:=hS
 by_cases hm:i∈o
 ·rw[if_pos hm]at hR
  have hfj:=ztw 0 hm
  simp-implicitDefEqProofs[go_sem,gm,ge,gp,gv,hfj,zac]
  exact hR h nx q ⟨Ext.refl _ _,rfl⟩ (Nat.le_refl _) ⟨lb,gm,ge,gp,gv,go⟩
 ·rw[if_neg hm]at hR
  have hfj:=zsn 0 hm
  have hil:i.toNat<L.length:=by omega
  obtain⟨iN,hiN⟩:∃iN:Nat,i=(iN:Int):=⟨i.toNat,by omega⟩
  have hiL:iN<L.length:=by omega
  have hO1:=hO.snoc hm hi
  have hkd:(L.getD i.toNat ⟨0,[],[],false⟩).kids=L[iN].kids:=by
   rw[hiN,Int.toNat_natCast,List.getD_eq_getElem?_getD,List.getElem?_eq_getElem hiL]
   rfl
  rw[hkd]at hR
  have hkr:∀x∈L[iN].kids,0≤x∧x<(L.length:Int):=hw _ (List.getElem_mem hiL)
  have hkl1:L[iN].kids.length≤1000000:=hkl _ (List.getElem_mem hiL)
  have hol:=hO.len
  have hol1:=hO1.len
  have hle:o.length+1≤16777216:=by
   rw[List.length_append]at hol1
   simp only[List.length_cons,List.length_nil]at hol1
   omega
  have hM0:=hM
  obtain⟨hnd,ma,mb,gM,hU⟩:=hM
  have hpb:=hU.2.2.1
  obtain⟨_,_,_,hU4⟩:=hU
  rcases hU4 with⟨e1,_,_⟩ |⟨l0,mm,mq,o1,o2,m1,q1,m2,q2,q3,e1,gmm,e2,gmq⟩
  ·rw[e1]at hiL;simp at hiL
  have hat:=zpz L iN _ (List.getElem?_eq_getElem hiL)
  have hfl:=zkg L
  have hkids:∀hh,(L.flatMap Nd.cs)[iN * 4+2]'hh=.fz 1 false (za5 L[iN].kids):=by
   intro hh
   have h1:(L.flatMap Nd.cs)[iN * 4+2]?=some (.fz 1 false (za5 L[iN].kids)):=by
    have:=congrArg (fun l:List AV=>l[2]?) hat
    simp only[List.getElem?_take,List.getElem?_drop]at this
    simpa[Nd.cs]using this
   rw[List.getElem?_eq_getElem hh]at h1
   exact Option.some.inj h1
  have hk4:iN * 4+2<(L.flatMap Nd.cs).length:=by omega
  subst e2
  generalize hLL:L.flatMap Nd.cs=LL at gmq hkids hk4
  have b1:¬p=nx:=by omega
  have b2:¬b=nx:=by omega
  have b3:¬b+2=nx:=by omega
  have b4:¬b+4=nx:=by omega
  have b5:¬mq=nx:=by omega
  have b6:¬p=nx+1:=by omega
  have b7:¬b=nx+1:=by omega
  have b8:¬mq=nx+1:=by omega
  have b9:¬p=b+2:=by omega
  have b10:¬p=b+4:=by omega
  have b11:¬mq=b+2:=by omega
  have b12:¬mq=b+4:=by omega
  have b13:¬b+3=nx:=by omega
  have b14:¬b+1=nx:=by omega
  subst hiN
  obtain⟨O1,hO1e⟩:∃O1,O1=o++[(iN:Int)]:=⟨_,rfl⟩
  rw[← hO1e]at hR hO1
  have hO1l:O1.length=o.length+1:=by rw[hO1e];simp
  have d1:¬nx=b+3:=by omega
  have d2:¬nx+1=b+2:=by omega
  have d3:¬b+5=nx:=by omega
  have d4:¬b=nx:=by omega
  have hmx:zex O1 0=zex o 0++[(.int .i64 (iN:Int),.int .i64 (o.length:Int),o.length)]:=by
   have:=zyn (iN:Int) o 0
   rw[hO1e,← this]
   simp
  have hRes:∀g ny q',Low b h g→nx≤ny→VsSt b p q' (L[iN].kids.foldl (ze0 L f) O1) g ny→R (.tup []) g ny:=hR
  clear hR
  rcases go with⟨ho1,ho2⟩ |⟨ho1,ho2,ho3,ho4,ho5⟩
  ·have ho0:o.length=0:=by rw[ho1];rfl
   have hO10:O1=[(iN:Int)]:=by rw[hO1e,ho1];rfl
   have ge0:h.get (b+2)=some (.map (zex [] 0) 0):=by simpa[ho1]using ge
   have hfj0:zhu (iN:Int) [] 0=none:=rfl
   have hmx0:zex O1 0=[(.int .i64 (iN:Int),.int .i64 0,0)]:=by rw[hO10];rfl
   simp-implicitDefEqProofs[go_sem,gm,ge0,gp,gv,hfj0,zac,ho2,b1,b2,b3,b4,b5,b6,b7,b8,b9,b10,b11,b12,b13,b14,gM,gmq,hiL,hkids,hk4,za3]
   generalize hg0:Tr.put _ (b+4) _=h0
   have hS0:VsSt b p (nx+1) O1 h0 (nx+1+1):=by
    refine⟨by omega,?_,?_,?_,?_,.inr ⟨by rw[hO10];simp,by omega,by omega,?_,?_⟩⟩
    all_goals (rw[← hg0])
    ·simp[go_sem,gm,b2,b7]
    ·rw[hmx0,hO10]
     simp[go_sem,b3,b14,zex]
    ·simp[go_sem,gp,b13,show ¬b+2=nx by omega]
    ·simp[go_sem,gv,d3,b4]
    ·rw[hO10];simp[go_sem]
    ·rw[hO10];simp[go_sem,za5,d1]
   have hL0:Low b h h0:=by
    rw[← hg0]
    refine⟨?_,?_⟩
    ·simp(disch:=omega)only[za6]
     exact Ext.refl _ _
    ·simp[go_sem,d4,b14]
   clear hg0
   refine zap (fun mm st=>∃tm h' nx' k q' o',st=.mk tm h' nx' []∧mm=L[iN].kids.length-k∧k≤L[iN].kids.length∧tm.get 4=some (.ptr (b+5) 0)∧tm.get 33=some (.fz 1 false (za5 L[iN].kids))∧tm.get 34=some (.int .i64 (L[iN].kids.length:Int))∧tm.get 35=some (.int .i64 (k:Int))∧Low b h h'∧nx≤nx'∧VsSt b p q' o' h' nx'∧OkO L o'∧O1.length≤o'.length∧RowKit.Hid (L[iN].kids.foldl (ze0 L f) O1=(L[iN].kids.drop k).foldl (ze0 L f) o')) ⟨L[iN].kids.length,_,_,_,0,nx+1,O1,rfl,by simp,by simp,?_⟩ ?_
   ·simp-implicitDefEqProofs[go_sem]
    exact⟨hL0,by omega,hS0,hO1,Lib.hid trivial⟩
   ·rintro mm' st ⟨tm,h',nx',k,q',o',rfl,rfl,hk,t4,t33,t34,t35,hLw,hnn,hSt,hOk,hOl,hv⟩ J hJ
    refine zag za4 _ ?_
    by_cases hlt:k<L[iN].kids.length
    ·have hv1:=hv.out
     rw[List.drop_eq_getElem_cons hlt,List.foldl_cons]at hv1
     have hkk:=hkr _ (List.getElem_mem hlt)
     have HV:=Lib.hid hv1
     clear hv1
     generalize hy:L[iN].kids[k]=y at HV hkk
     have gv':=hSt.gv
     simp-implicitDefEqProofs[go_sem,t4,t33,t34,t35,hlt,hy,gv']
     refine ih o' h' nx' q' y _ (hM0.mono (fun _ h=>h) (fun a ha _=>hLw.1 a ha) (Nat.le_refl _)) hSt hOk hkk (by omega) fun g ny q2 c1 c2 c3=>?_
     obtain⟨v1,v2⟩:=zkr hw f o' y hOk hkk
     simp-implicitDefEqProofs[go_sem,za0,t4,t33,t34,t35]
     refine hJ (L[iN].kids.length-(k+1)) _ (by omega) ⟨_,_,_,k+1,q2,ze0 L f o' y,rfl,rfl,by omega,?_⟩
     simp(disch:=omega) [go_sem,t4,t33,t34,t35,zab]
     exact⟨hLw.trans c1,by omega,c3,v1,by omega,HV⟩
    ·have hv1:=hv.out
     rw[List.drop_of_length_le (by omega)]at hv1
     simp only[List.foldl_nil]at hv1
     simp-implicitDefEqProofs[go_sem,t4,t33,t34,t35,hlt]
     refine hRes h' nx' q' hLw hnn ?_
     rw[hv1]
     exact hSt
  ·have c1:¬q=b+2:=by omega
   have c2:¬q=nx:=by omega
   have c3:¬b+2=q:=by omega
   have c4:¬b+4=q:=by omega
   have c5:¬b=q:=by omega
   have c6:¬p=q:=by omega
   have c7:¬mq=q:=by omega
   have fo:=zi2 o
   simp-implicitDefEqProofs[go_sem,gm,ge,gp,gv,hfj,zac,ho4,ho5,b1,b2,b3,b4,b5,b6,b7,b8,b9,b10,b11,b12,b13,b14,c1,c2,c3,c4,c5,c6,c7,fo,hle,gM,gmq,hiL,hkids,hk4,za3]
   generalize hg0:Tr.put _ (b+4) _=h0
   have hS0:VsSt b p (nx+1) O1 h0 (nx+1+1):=by
    refine⟨by omega,?_,?_,?_,?_,.inr ⟨by rw[hO1e];simp,by omega,by omega,?_,?_⟩⟩
    all_goals (rw[← hg0])
    ·simp[go_sem,gm,b2,b7,c5]
    ·rw[hmx,hO1l]
     simp[go_sem,b3,b14,c3]
    ·simp[go_sem,gp,b13,show ¬b+2=nx by omega,show ¬b+3=q by omega]
    ·simp[go_sem,gv,d3,b4,show ¬b+5=q by omega]
    ·rw[hO1l];simp[go_sem]
    ·rw[hO1e];simp[go_sem,za5,d1]
   have hL0:Low b h h0:=by
    rw[← hg0]
    refine⟨?_,?_⟩
    ·simp(disch:=omega)only[za6]
     exact Ext.refl _ _
    ·simp[go_sem,d4,b14,show ¬b+1=q by omega]
   clear hg0
   refine zap (fun mm st=>∃tm h' nx' k q' o',st=.mk tm h' nx' []∧mm=L[iN].kids.length-k∧k≤L[iN].kids.length∧tm.get 4=some (.ptr (b+5) 0)∧tm.get 33=some (.fz 1 false (za5 L[iN].kids))∧tm.get 34=some (.int .i64 (L[iN].kids.length:Int))∧tm.get 35=some (.int .i64 (k:Int))∧Low b h h'∧nx≤nx'∧VsSt b p q' o' h' nx'∧OkO L o'∧O1.length≤o'.length∧RowKit.Hid (L[iN].kids.foldl (ze0 L f) O1=(L[iN].kids.drop k).foldl (ze0 L f) o')) ⟨L[iN].kids.length,_,_,_,0,nx+1,O1,rfl,by simp,by simp,?_⟩ ?_
   ·simp-implicitDefEqProofs[go_sem]
    exact⟨hL0,by omega,hS0,hO1,Lib.hid trivial⟩
   ·rintro mm' st ⟨tm,h',nx',k,q',o',rfl,rfl,hk,t4,t33,t34,t35,hLw,hnn,hSt,hOk,hOl,hv⟩ J hJ
    refine zag za4 _ ?_
    by_cases hlt:k<L[iN].kids.length
    ·have hv1:=hv.out
     rw[List.drop_eq_getElem_cons hlt,List.foldl_cons]at hv1
     have hkk:=hkr _ (List.getElem_mem hlt)
     have HV:=Lib.hid hv1
     clear hv1
     generalize hy:L[iN].kids[k]=y at HV hkk
     have gv':=hSt.gv
     simp-implicitDefEqProofs[go_sem,t4,t33,t34,t35,hlt,hy,gv']
     refine ih o' h' nx' q' y _ (hM0.mono (fun _ h=>h) (fun a ha _=>hLw.1 a ha) (Nat.le_refl _)) hSt hOk hkk (by omega) fun g ny q2 c1 c2 c3=>?_
     obtain⟨v1,v2⟩:=zkr hw f o' y hOk hkk
     simp-implicitDefEqProofs[go_sem,za0,t4,t33,t34,t35]
     refine hJ (L[iN].kids.length-(k+1)) _ (by omega) ⟨_,_,_,k+1,q2,ze0 L f o' y,rfl,rfl,by omega,?_⟩
     simp(disch:=omega) [go_sem,t4,t33,t34,t35,zab]
     exact⟨hLw.trans c1,by omega,c3,v1,by omega,HV⟩
    ·have hv1:=hv.out
     rw[List.drop_of_length_le (by omega)]at hv1
     simp only[List.foldl_nil]at hv1
     simp-implicitDefEqProofs[go_sem,t4,t33,t34,t35,hlt]
     refine hRes h' nx' q' hLw hnn ?_
     rw[hv1]
     exact hSt
end
end Go.Ev
namespace Go.Ev
open Go.Proofs Go.RowKit
noncomputable section
attribute [-go_sem] zaf zac zay
theorem zOe {P:Program}{c:Cx}(hc:CxOk P c){fid:FuncId}{fn:Func}(hft:c.ft.get fid=some fn){es e sz:Nat}{full:Bool}{h:Tr ABlk}{nx:Nat}{R:AV→Tr ABlk→Nat→Prop}
  (h1:∀(n cp:Nat) (w:World),Calls P fid #[.slice none n cp] w fun e w'=>e=.returned (.slice none 0 0)∧w'=w)
  (h2:∀(a:Addr) (cp:Nat) (w:World),Calls P fid #[.slice (some a) 0 cp] w fun q w'=>∃v',q=.returned v'∧w'.ownsRow w.heap.size e sz v' 0 []∧v'≠.slice none 0 0∧Below w.heap.size w w')
  (hR:R (.fz es false []) h nx):za7 P c fid [.fz es full []] h nx R:=by
 intro σ w A hk hA
 simp only[za1,Rel]at hA
 obtain⟨V,L,rfl,⟨a,cap,rfl,_,_,ha,_⟩,rfl⟩:=hA
 refine zni hc hft ?_
 cases a with
 |none=>
  refine(h1 0 cap w).mono ?_
  rintro q w' ⟨rfl,rfl⟩
  exact⟨σ,.fz es false [],h,nx,by simp only[Rel];exact⟨none,0,rfl,by simp,by simp,by simp,by simp⟩,.refl hk,hR⟩
 |some a=>
  refine(h2 a cap w).mono ?_
  rintro q w' ⟨v',rfl,ho,hne,hb⟩
  refine⟨σ,.fz es false [],h,nx,?_,Post.same hk hb.os hb.tape hb.output hb.size hb.block,hR⟩
  obtain⟨_,⟨e1,_⟩ |⟨g,cp,cur,e1,_⟩⟩:=ho
  ·exact absurd e1 hne
  ·simp only[Rel]
   exact⟨_,cp,e1,by simp,by simp,by simp,by simp⟩
theorem zDp (l:List Int):(za5 l).flatMap AV.cells=za5 l:=by
 induction l with
 |nil=>rfl
 |cons x l ih=>
  rw[show za5 (x::l)=.int .i64 x::za5 l from rfl,List.flatMap_cons,ih]
  rfl
theorem zRs (u:Bool)(l:List Int)(hl:l.length≤16000000)(h:Tr ABlk) (nx:Nat)(R:AV→Tr ABlk→Nat→Prop)(hR1:l=[]→R (.fz 1 false []) h nx)
  (hR2:l≠[]→∀g q ny,Ext nx h g→nx≤q→q<ny→g.get q=some (bx 3 (za5 l) true 1)→R (.sl q 0 l.length 0 true) g ny):za7 Tryz.prog cx 207 [.fz 1 u (za5 l)] h nx R:=by
 cases l with
 |nil=>exact zOe za4 zA8 (fun n cp w=>Any.slices_Clone_int_nil Tryz.lays2n15 n cp w) (fun a cp w=>Any.slices_Clone_int_zero Tryz.lays2n15 a cp w) (hR1 rfl)
 |cons x xs=>
  have hc:=zDp (x::xs)
  have hlen:=zp0 xs
  refine zJ9 u (.int .i64 x) (za5 xs) (by rw[show (AV.int .i64 x)::za5 xs=za5 (x::xs) from rfl,hc];exact zi2 _) (by rw[hlen];simp at hl;omega) h nx R fun g q ny e1 e2 e3 e4=>?_
  rw[show (AV.int .i64 x)::za5 xs=za5 (x::xs) from rfl,hc]at e4
  have:=hR2 (by simp) g q ny e1 e2 e3 e4
  rw[hlen]
  exact this
def zcq (o:List Int) (x:Int):Int:=if x∈o then (zs9 o x:Int) else 0
def zed (L:List Nd)(o:List Int) (i:Int):Nd:=
 ⟨(L.getD i.toNat ⟨0,[],[],false⟩).fact,(L.getD i.toNat ⟨0,[],[],false⟩).cuts,(L.getD i.toNat ⟨0,[],[],false⟩).kids.map (zcq o),(L.getD i.toNat ⟨0,[],[],false⟩).leaf⟩
def zc8 (L:List Nd) (root:Int):List Int:=ze0 L (L.length+1) [] root
def zdh (L:List Nd) (root:Int):List Nd:=(zc8 L root).map (zed L (zc8 L root))
theorem zE5 {L:List Nd}(hw:WK L) (f:Nat):∀(ks:List Int),(∀x∈ks,0≤x∧x<(L.length:Int))→∀o1,OkO L o1→o1.length≤(ks.foldl (ze0 L f) o1).length
 |[],_,o1,_=>Nat.le_refl _
 |k::ks,hk,o1,h1=>by
  obtain⟨a1,a2⟩:=zkr hw f o1 k h1 (hk k List.mem_cons_self)
  have:=zE5 hw f ks (fun x hx=>hk x (List.mem_cons_of_mem _ hx)) _ a1
  simp only[List.foldl_cons]
  omega
theorem zxu {L:List Nd}(hw:WK L){root:Int}(hr:0≤root∧root<(L.length:Int)):zc8 L root≠[]:=by
 intro e
 rw[zc8,ze0,if_neg (by simp)]at e
 have hk:∀x∈(L.getD root.toNat ⟨0,[],[],false⟩).kids,0≤x∧x<(L.length:Int):=by
  have hl:root.toNat<L.length:=by omega
  rw[List.getD_eq_getElem?_getD,List.getElem?_eq_getElem hl]
  exact hw _ (List.getElem_mem hl)
 have:=zE5 hw L.length _ hk ([]++[root]) (OkO.snoc ⟨by simp,by simp⟩ (by simp) hr)
 rw[e]at this
 simp at this
@[go_sem] theorem zW8 (x:Int)(o:List Int)(h:Tr ABlk) (nx:Nat):zac false (.int .i64 0) (zhu x o 0) h nx=.val (.int .i64 (zcq o x)) h nx:=by
 by_cases e:x∈o
 ·rw[ztw 0 e,zcq,if_pos e]
  simp[zac,zs9]
 ·rw[zsn 0 e,zcq,if_neg e]
  rfl
def zqd (lo:Nat)(h:Tr ABlk) (nx:Nat)(vk:AV)(cur:List Int):Prop:=(cur=[]∧vk=.fz 1 false [])∨(cur≠[]∧∃b,lo<b∧b<nx∧vk=.sl b 0 cur.length 0 true∧h.get b=some (bx 3 (za5 cur) true 1))
structure FrM (o:List Int) (q nx ny p:Nat)(cells:List AV)(h:Tr ABlk):Prop where
 gq:h.get q=some (bx 3 (za5 o) true 1)
 gm:h.get nx=some (bx 182 [.ptr p 0] false 0)
 gp:h.get (nx+3)=some (bx 234 [.map (nx+2)] false 0)
 ge:h.get (nx+2)=some (.map (zex o 0) o.length)
 gz:h.get (nx+1)=some (bx 92 [.sl0] false 0)
 gu:h.get (ny+1)=some (bx 92 [.sl ny 0 o.length o.length false] false 0)
 gt:h.get ny=some (bx 154 cells false 0)
theorem FrM.mono {o:List Int}{q nx ny p m:Nat}{cells:List AV}{h g:Tr ABlk}(S:FrM o q nx ny p cells h)(e:∀k,k<m→g.get k=h.get k)(h1:nx+6≤ny)(h2:q<ny)(h3:ny+2≤m):FrM o q nx ny p cells g:=by
 obtain⟨gq,gm,gp,ge,gz,gu,gt⟩:=S
 refine⟨?_,?_,?_,?_,?_,?_,?_⟩
 all_goals (rw[e _ (by omega)];assumption)
theorem zEc {D:List Nd}{n:Nd}{z4:List AV}{m k:Nat}(hD:D.length=k)(hz:z4.length=4):za3 (D.flatMap Nd.cs++zdi z4 (m+1)) (k * 4) n.cs=(D++[n]).flatMap Nd.cs++zdi z4 m:=by
 have h1:(D.flatMap Nd.cs).length=k * 4:=by rw[zkg,hD]
 have h2:n.cs.length=4:=by cases n;rfl
 rw[zQ9,List.take_left' h1,h2,zyx,List.drop_append,h1,show k * 4+4-k * 4=4 by omega,List.drop_of_length_le (by omega),List.nil_append,List.drop_left' hz]
 simp
theorem zU6:cx.ft.get 146=some Tryz.f146:=za9 (by decide) (by kernel_rfl)
section
variable (ops : List Oper) (K : AS → Prop) (dst : Option Tmp) (ty : TypeId) (pos : String) (aft : Array Edge) (tm : Tr AV) (h : Tr ABlk) (nx : Nat) (ds : List DE) (P : Program) (c : Cx) (sz : Nat)
@[go_sem ↓] theorem zX2 (t:TypeId)(l cp:Operand):awS P c sz ops ⟨dst,.makeSlice t l cp,ty,pos,aft,none⟩ K (.mk tm h nx ds)=zb7 sz dst tm ds K (zmh c t l cp tm h nx):=rfl
end
attribute [go_sem] zmh
@[go_sem] theorem zY3 (e a1 a2 b1 bytes n:Nat)(a3:Option AV)(a4 b4:List (Nat×Nat×Bool))(d2:TypeDesc)(z:AV)(k1 k2:IntKind)(h:Tr ABlk) (nx:Nat)(h1:n≤16777216)(h2:bytes≤16777216):
  zo4 (.mk (.slice e) a1 a2 a3 a4) (some (.mk d2 b1 bytes (some z) b4)) e (.int k1 (n:Int)) (.int k2 (n:Int)) h nx=.val (.sl nx 0 n n false) (h.put nx (some (bx e (zdi z.cells n) false 0))) (nx+1):=by
 simp[zo4,zkj,Nat.beq_refl,zcl,h1,h2,fN_eq,newK_eq]
theorem NEx {a b:Nat}(h:a<b):(a=b)=False:=by simp;omega
theorem zBg (z:List AV) (n:Nat):(zdi z n).length=n * z.length:=by
 induction n with
 |zero=>simp[zzh]
 |succ n ih=>rw[zyx,List.length_append,ih,Nat.succ_mul];omega
set_option maxHeartbeats 2000000 in
theorem zta (O:Nat→Prop)(L:List Nd) (p nx:Nat)(h:Tr ABlk) (root:Int)(hM:zcx O h nx p L)(hO:∀k,O k→k<nx)(hw:WK L)(hkl:∀n∈L,n.kids.length≤1000000)(hl:L.length≤1000000)(hr:0≤root∧root<(L.length:Int)):
  za7 Tryz.prog cx 146 [.ptr p 0,.int .i64 root] h nx (fun v g ny=>v=(if 20000<(zc8 L root).length then .tup [.agg [.fz 4 false []],.int .i64 2] else .tup [.agg [.fz 4 false (zal (zdh L root))],.int .i64 0])∧g=h∧ny=nx):=by
 refine za7.mkW fun R hR=>zaa (sz:=71) (rs:=[.cell 4 92,.tmp 5]) za4 zU6 rfl rfl rfl (by simp) ?_
 have hM':zcx (fun k=>k<nx) h nx p L:=hM.mono hO (fun _ _ _=>rfl) (Nat.le_refl _)
 have z1:¬nx+3=nx+2:=by omega
 simp-implicitDefEqProofs[go_sem,za3]
 have E0:∀(x1 x2 x3 x4 x5 x6 x7:Option ABlk) (g0:Tr ABlk),Ext nx h g0→Ext nx h g0:=fun _ _ _ _ _ _ _ _ e=>e
 clear E0
 generalize hg0:Tr.put _ (nx+2+1+1+1) (some (bx 235 [AV.func 206 [] _] false 0))=h0
 have E0:Ext nx h h0:=by
  rw[← hg0]
  simp(disch:=omega)only[za6]
  exact Ext.refl _ _
 have g1:h0.get (nx+1)=some (bx 92 [.sl0] false 0):=by rw[← hg0];simp[go_sem]
 have hS0:VsSt nx p 0 [] h0 (nx+6):=by
  refine⟨by omega,?_,?_,?_,?_,.inl ⟨rfl,?_⟩⟩
  all_goals (rw[← hg0];simp(disch:=omega) [go_sem,zex,NEx])
 clear hg0
 refine zS8 L nx p hw hkl hl (L.length+1) [] h0 (nx+6) 0 root _ (hM'.ext E0 (by omega)) hS0 ⟨by simp,by simp⟩ hr (by simp) fun g ny q c1 c2 c3=>?_
 have hOk:=(zkr hw (L.length+1) [] root ⟨by simp,by simp⟩ hr).1
 have ho:ze0 L (L.length+1) [] root=zc8 L root:=rfl
 rw[ho]at c3 hOk
 have hne:=zxu hw hr
 unfold zdh at hR
 obtain⟨lb,gm,ge,gp,gv,go⟩:=c3
 rcases go with⟨e,_⟩ |⟨_,q1,q2,go,gq⟩
 ·exact absurd e hne
 have hol:=hOk.len
 have gout:g.get (nx+1)=some (bx 92 [.sl0] false 0):=by rw[c1.2];exact g1
 have E1:Ext nx h g:=fun k hk=>by rw[c1.1 k hk];exact E0 k hk
 clear c1 g1 E0 hS0
 generalize zc8 L root=o at *
 by_cases hbig:20000<o.length
 ·rw[if_pos hbig]at hR
  have hb2:(20000:Int)<(o.length:Int):=by omega
  simp-implicitDefEqProofs[go_sem,za0,go,hb2,gout,za3]
  refine hR _ _ _ (.tup [.agg [.sl0],.int .i64 2]) ?_ (Fz.eq rfl rfl) ?_
  ·simp(disch:=omega)only[za6]
   exact E1
  ·exact .tup _ _ (.cons _ _ _ _ (.agg _ _ (.cons _ _ _ _ (.sl0 4 false) .nil)) (.cons _ _ _ _ (.same _) .nil))
 ·rw[if_neg hbig]at hR
  have hb2:¬(20000:Int)<(o.length:Int):=by omega
  have hb3:o.length≤16777216:=by omega
  have d1:¬nx+4=ny:=by omega
  have d2:¬nx+3=ny:=by omega
  have d3:¬nx+2=ny:=by omega
  have d4:¬q=ny:=by omega
  have d5:¬q=ny+1:=by omega
  have d6:¬nx=ny:=by omega
  have d7:¬nx=ny+1:=by omega
  have d8:¬nx+1=ny:=by omega
  obtain⟨z4,hz4⟩:∃z4:List AV,z4=[.int .i64 0,.sl0,.sl0,.bool false]:=⟨_,rfl⟩
  simp-implicitDefEqProofs[go_sem,za0,go,hb2,hb3,d1,d2,d3,za3]
  rw[← hz4]
  refine zap (fun mm st=>∃tm h' nx' k,st=.mk tm h' nx' []∧mm=o.length-k∧k≤o.length∧tm.get 2=some (.ptr nx 0)∧tm.get 4=some (.ptr (nx+1) 0)∧tm.get 6=some (.ptr (nx+3) 0)∧tm.get 9=some (.ptr (ny+1) 0)∧tm.get 27=some (.sl q 0 o.length 0 true)∧tm.get 28=some (.int .i64 (o.length:Int))∧tm.get 29=some (.int .i64 (k:Int))∧
FrM o q nx ny p (((o.take k).map (zed L o)).flatMap Nd.cs++zdi z4 (o.length-k)) h'∧Ext nx h h'∧ny+2≤nx') ⟨o.length,_,_,_,0,rfl,by simp,by simp,?_⟩ ?_
  ·simp-implicitDefEqProofs[go_sem]
   refine⟨⟨?_,?_,?_,?_,?_,?_,?_⟩,?_⟩
   all_goals first |(simp(disch:=omega) [go_sem,NEx,gq,gm,gp,ge,gout,d4,d5,d6,d7,d8,d3,hz4];done) |(simp(disch:=omega)only[za6];exact E1)
  ·rintro mm st ⟨tm,h',nx',k,rfl,rfl,hk,t2,t4,t6,t9,t27,t28,t29,hF,he,hnn⟩ J hJ
   obtain⟨gq',gm',gp',ge',gz',gu',gt'⟩:=hF
   have hF:FrM o q nx ny p (((o.take k).map (zed L o)).flatMap Nd.cs++zdi z4 (o.length-k)) h':=⟨gq',gm',gp',ge',gz',gu',gt'⟩
   refine zag za4 _ ?_
   by_cases hlt:k<o.length
   ·generalize hCL:((o.take k).map (zed L o)).flatMap Nd.cs++zdi z4 (o.length-k)=CL at gt' hF
    obtain⟨x,hx⟩:∃x,x=o[k]:=⟨_,rfl⟩
    have hxr:=hOk.2 o[k] (List.getElem_mem hlt)
    rw[← hx]at hxr
    obtain⟨xN,hxN⟩:∃xN:Nat,x=(xN:Int):=⟨x.toNat,by omega⟩
    have hxL:xN<L.length:=by omega
    obtain⟨n,hn⟩:∃n,n=L[xN]:=⟨_,rfl⟩
    have hfrom:zed L o x=⟨n.fact,n.cuts,n.kids.map (zcq o),n.leaf⟩:=by
     rw[hn]
     simp only[zed,hxN,Int.toNat_natCast,List.getD_eq_getElem?_getD,List.getElem?_eq_getElem hxL]
     rfl
    have hkl1:n.kids.length≤1000000:=by rw[hn];exact hkl _ (List.getElem_mem hxL)
    have htk:(o.take (k+1)).map (zed L o)=(o.take k).map (zed L o)++[⟨n.fact,n.cuts,n.kids.map (zcq o),n.leaf⟩]:=by
     rw[List.take_succ_eq_append_getElem hlt,List.map_append,← hx,← hfrom]
     rfl
    obtain⟨_,ma,mb,gM,hU⟩:=hM'
    have hM2:h'.get p=some (bx 187 [ma,mb] false 0):=by rw[he p hU.2.2.1];exact gM
    obtain⟨_,_,hpn,hU4⟩:=hU
    rcases hU4 with⟨e1,_,_⟩ |⟨l0,mm,mq,o1,o2,m1,mq1,m2,mq2,mq3,e1,gmm,e2,gmq⟩
    ·rw[e1]at hxL;simp at hxL
    subst e2
    have gmq':h'.get mq=some (bx 154 (L.flatMap Nd.cs) true 4):=by rw[he mq mq1];exact gmq
    have hat:=zpz L xN _ (List.getElem?_eq_getElem hxL)
    rw[← hn]at hat
    have hfl:=zkg L
    have hk4:xN * 4+4≤(L.flatMap Nd.cs).length:=by omega
    have hox:∀hh,(za5 o)[k]'hh=.int .i64 (xN:Int):=fun hh=>zmt (by rw[List.getElem?_eq_getElem hlt,← hx,hxN]) hh
    generalize L.flatMap Nd.cs=LL at gmq' hat hk4
    simp only[Nd.cs]at hat
    have f1:¬p=nx':=by omega
    have f2:¬q=nx':=by omega
    have f3:¬nx=nx':=by omega
    have f4:¬mq=nx':=by omega
    simp-implicitDefEqProofs[go_sem,t2,t4,t6,t9,t27,t28,t29,hlt,gq',gm',hM2,gmq',hxL,hat,hk4,hox,f1,f2,f3,f4,za3]
    have tail:∀(vk:AV) (h2:Tr ABlk) (nx2:Nat),True:=fun _ _ _=>trivial
    clear tail
    refine zRs false n.kids (by omega) _ _ _ (fun hk0=>?_) fun hk0 g1 b ny1 c1 c2 c3 c4=>?_
    ·have hkl0:n.kids.length=0:=by rw[hk0];rfl
     simp-implicitDefEqProofs[go_sem,za0,za3]
     generalize hh2:Tr.put _ nx' (some (bx 154 [_,_,AV.fz 1 false [],_] false 0))=h2
     obtain⟨vk,hvk⟩:∃vk:AV,vk=.fz 1 false []:=⟨_,rfl⟩
     have hE2:∀a,a<nx'→h2.get a=h'.get a:=by
      intro a ha
      rw[← hh2]
      simp(disch:=omega) [go_sem,NEx]
     have g2:h2.get nx'=some (bx 154 [.int .i64 n.fact,.fz 1 false (za5 n.cuts),vk,.bool n.leaf] false 0):=by
      rw[← hh2]
      simp[go_sem,hvk]
     have hCK:zqd nx' h2 (nx'+1) vk n.kids:=.inl ⟨hk0,hvk⟩
     clear hh2
     have hF2:FrM o q nx ny p CL h2:=hF.mono hE2 lb q2 hnn
     have hE3:Ext nx h h2:=fun a ha=>by rw[hE2 a (by omega)];exact he a ha
     refine zap (fun mm st=>∃tm h3 nx3 j vk cur,st=.mk tm h3 nx3 []∧mm=n.kids.length-j∧j≤n.kids.length∧tm.get 2=some (.ptr nx 0)∧tm.get 4=some (.ptr (nx+1) 0)∧tm.get 6=some (.ptr (nx+3) 0)∧tm.get 9=some (.ptr (ny+1) 0)∧tm.get 27=some (.sl q 0 o.length 0 true)∧tm.get 28=some (.int .i64 (o.length:Int))∧tm.get 29=some (.int .i64 (k:Int))∧tm.get 10=some (.int .i64 (k:Int))∧tm.get 12=some (.ptr nx' 0)∧tm.get 48=some (.int .i64 (n.kids.length:Int))∧tm.get 49=some (.int .i64 (j:Int))∧
      FrM o q nx ny p CL h3∧Ext nx h h3∧nx'<nx3∧h3.get nx'=some (bx 154 [.int .i64 n.fact,.fz 1 false (za5 n.cuts),vk,.bool n.leaf] false 0)∧
      zqd nx' h3 nx3 vk cur∧RowKit.Hid (cur=(n.kids.take j).map (zcq o)++n.kids.drop j)) ⟨n.kids.length,_,_,_,0,vk,n.kids,rfl,by simp,by simp,?_⟩ ?_
     ·simp-implicitDefEqProofs[go_sem,t2,t4,t6,t9,t27,t28,t29,hkl0]
      exact⟨hF2,hE3,g2,hCK,Lib.hid trivial⟩
     ·rintro mm2 st2 ⟨tm,h3,nx3,j,vk,cur,rfl,rfl,hj,t2,t4,t6,t9,t27,t28,t29,t10,t12,t48,t49,hF3,hE4,hn3,g3,hck,hv⟩ J2 hJ2
      obtain⟨gq2,gm2,gp2,ge2,gz2,gu2,gt2⟩:=hF3
      have hF3:FrM o q nx ny p CL h3:=⟨gq2,gm2,gp2,ge2,gz2,gu2,gt2⟩
      by_cases hlt2:j<n.kids.length
      ·refine zag za4 _ ?_
       have hcl:cur.length=n.kids.length:=by rw[hv.out];simp;omega
       rcases hck with⟨hc0,_⟩ |⟨_,b,b1,b2,rfl,gb⟩
       ·rw[hc0]at hcl;simp at hcl;omega
       have hlj:((n.kids.take j).map (zcq o)).length=j:=by simp;omega
       have hcj:cur[j]?=some n.kids[j]:=by
        rw[hv.out,List.getElem?_append_right (by omega),hlj,Nat.sub_self,List.getElem?_drop,Nat.add_zero,List.getElem?_eq_getElem hlt2]
       have hce:=zmt hcj
       have hse:=zu7 cur j (zcq o n.kids[j]) (by omega)
       have hnew:cur.set j (zcq o n.kids[j])=(n.kids.take (j+1)).map (zcq o)++n.kids.drop (j+1):=by
        rw[hv.out,List.take_succ_eq_append_getElem hlt2,List.drop_eq_getElem_cons hlt2,List.set_append_right _ _ (by omega),hlj,Nat.sub_self,List.map_append,List.set_cons_zero,List.append_assoc]
        rfl
       have HV:=Lib.hid hnew
       clear hnew
       have hjc:j<cur.length:=by omega
       have hjc1:j+1≤cur.length:=by omega
       rw[← hcl]at hlt2
       rw[← hcl]at t48
       have k1:¬nx'=b:=by omega
       have k2:¬b=nx':=by omega
       generalize hy:n.kids[j]=y at hce hse HV
       simp-implicitDefEqProofs[go_sem,t2,t4,t6,t9,t27,t28,t29,t10,t12,t48,t49,hlt2]
       refine zbq mixed za4 zbe [11] [] [] (by kernel_rfl) ?_
       simp-implicitDefEqProofs[go_sem,t2,t4,t6,t9,t27,t28,t29,t10,t12,t48,t49,hlt2,hjc,hjc1,g3,gb,gp2,ge2,hce,hse]
       refine hJ2 (n.kids.length-(j+1)) _ (by omega) ⟨_,_,_,j+1,.sl b 0 cur.length 0 true,cur.set j (zcq o y),rfl,rfl,by omega,?_⟩
       simp-implicitDefEqProofs (disch:=omega) [go_sem,t2,t4,t6,t9,t27,t28,t29,t10,t12,t48,t49,zab,hcl,k1,g3]
       refine⟨hF3.mono (m:=nx') (fun a ha=>by rw[Tr.get_put,if_neg (by omega)]) lb q2 hnn,?_,hn3,.inr ⟨?_,b,b1,b2,by simp[hcl],by simp[go_sem]⟩,Lib.hid (by rw[HV.out,List.map_take])⟩
       ·simp(disch:=omega)only[za6]
        exact hE4
       ·intro e
        have:=congrArg List.length e
        simp at this
        rw[this]at hjc
        simp at hjc
      ·have hjj:j=n.kids.length:=by omega
       have hcur:cur=n.kids.map (zcq o):=by
        rw[hv.out,List.take_of_length_le (by omega),List.drop_of_length_le (by omega),List.append_nil]
       obtain⟨nd,hnd⟩:∃nd:Nd,nd=⟨n.fact,n.cuts,n.kids.map (zcq o),n.leaf⟩:=⟨_,rfl⟩
       have hDl:((o.take k).map (zed L o)).length=k:=by simp;omega
       have hsg:za3 CL (k * 4) nd.cs=((o.take (k+1)).map (zed L o)).flatMap Nd.cs++zdi z4 (o.length-(k+1)):=by
        rw[htk,← hnd,← hCL,show o.length-k=(o.length-(k+1))+1 by omega]
        exact zEc hDl (by rw[hz4];rfl)
       have hCLl:CL.length=o.length * 4:=by
        rw[← hCL,List.length_append,zkg,hDl,zBg,hz4]
        simp
        omega
       have hk44:k * 4+4≤CL.length:=by omega
       have hnc:nd.cs=[.int .i64 n.fact,.fz 1 false (za5 n.cuts),.fz 1 false (za5 cur),.bool n.leaf]:=by rw[hnd,hcur];rfl
       rw[hnc]at hsg
       have hkk4:k * 4<CL.length:=by omega
       rcases hck with⟨hc0,rfl⟩ |⟨_,b,b1,b2,rfl,gb⟩
       ·obtain⟨h4,hh4⟩:∃h4,h4=h3:=⟨_,rfl⟩
        have g4:h4.get nx'=some (bx 154 [.int .i64 n.fact,.fz 1 false (za5 n.cuts),.fz 1 false (za5 cur),.bool n.leaf] false 0):=by rw[hh4,g3,hc0];rfl
        have hL4:∀a,a<nx'→h4.get a=h3.get a:=fun a _=>by rw[hh4]
        rw[← hh4]
        have hF4:FrM o q nx ny p CL h4:=hF3.mono (m:=nx') (fun a ha=>hL4 a ha) lb q2 hnn
        have hE5:Ext nx h h4:=fun a ha=>by rw[hL4 a (by omega)];exact hE4 a ha
        clear hh4
        obtain⟨gq4,gm4,gp4,ge4,gz4,gu4,gt4⟩:=hF4
        have hF4:FrM o q nx ny p CL h4:=⟨gq4,gm4,gp4,ge4,gz4,gu4,gt4⟩
        refine zag za4 _ ?_
        have hjn:¬j<n.kids.length:=hlt2
        simp-implicitDefEqProofs[go_sem,t2,t4,t6,t9,t27,t28,t29,t10,t12,t48,t49,hjn,g4,gu4,gt4,hlt,hk44,hsg]
        refine hJ (o.length-(k+1)) _ (by omega) ⟨_,_,_,k+1,rfl,rfl,by omega,?_⟩
        simp-implicitDefEqProofs (disch:=omega) [go_sem,t2,t4,t6,t9,t27,t28,t29,zab]
        refine⟨⟨?_,?_,?_,?_,?_,?_,?_⟩,?_,by omega⟩
        ·rw[Tr.get_put,if_neg (by omega)];exact gq4
        ·rw[Tr.get_put,if_neg (by omega)];exact gm4
        ·rw[Tr.get_put,if_neg (by omega)];exact gp4
        ·rw[Tr.get_put,if_neg (by omega)];exact ge4
        ·rw[Tr.get_put,if_neg (by omega)];exact gz4
        ·rw[Tr.get_put,if_neg (by omega)];exact gu4
        ·rw[Tr.get_put,if_pos rfl]
         try simp only[List.map_take]
        ·simp(disch:=omega)only[za6]
         exact hE5
       ·obtain⟨h4,hh4⟩:∃h4,h4=(zdd h3 [b]).put nx' (some (bx 154 [.int .i64 n.fact,.fz 1 false (za5 n.cuts),.fz 1 false (za5 cur),.bool n.leaf] false 0)):=⟨_,rfl⟩
        have g4:h4.get nx'=some (bx 154 [.int .i64 n.fact,.fz 1 false (za5 n.cuts),.fz 1 false (za5 cur),.bool n.leaf] false 0):=by rw[hh4];simp[go_sem]
        have hL4:∀a,a<nx'→h4.get a=h3.get a:=fun a ha=>by rw[hh4,Tr.get_put,if_neg (by omega),zfa (by simp;omega)]
        refine znf (fun a=>a∈[b]) (h':=h4) (tm':=tm) ?_ FyT.refl ?_
        ·rw[hh4]
         refine FyH.put (FyH.kill _) (by simp;omega) g3 (.cells _ _ _ _ _ _ fun a ha v hv'=>?_)
         rw[zbt]at hv' ⊢
         rcases a with _ |_ |_ |_ |a
         ·simp at hv';subst hv';exact⟨_,rfl,.same _⟩
         ·simp at hv';subst hv';exact⟨_,rfl,.same _⟩
         ·simp at hv';subst hv';exact⟨_,rfl,fyI (s:=cur) (r:=[]) (by simp) (by rw[List.append_nil];exact gb)⟩
         ·simp at hv';subst hv';exact⟨_,rfl,.same _⟩
         ·simp at hv'
        have hF4:FrM o q nx ny p CL h4:=hF3.mono (m:=nx') (fun a ha=>hL4 a ha) lb q2 hnn
        have hE5:Ext nx h h4:=fun a ha=>by rw[hL4 a (by omega)];exact hE4 a ha
        clear hh4
        obtain⟨gq4,gm4,gp4,ge4,gz4,gu4,gt4⟩:=hF4
        have hF4:FrM o q nx ny p CL h4:=⟨gq4,gm4,gp4,ge4,gz4,gu4,gt4⟩
        refine zag za4 _ ?_
        have hjn:¬j<n.kids.length:=hlt2
        simp-implicitDefEqProofs[go_sem,t2,t4,t6,t9,t27,t28,t29,t10,t12,t48,t49,hjn,g4,gu4,gt4,hlt,hk44,hsg]
        refine hJ (o.length-(k+1)) _ (by omega) ⟨_,_,_,k+1,rfl,rfl,by omega,?_⟩
        simp-implicitDefEqProofs (disch:=omega) [go_sem,t2,t4,t6,t9,t27,t28,t29,zab]
        refine⟨⟨?_,?_,?_,?_,?_,?_,?_⟩,?_,by omega⟩
        ·rw[Tr.get_put,if_neg (by omega)];exact gq4
        ·rw[Tr.get_put,if_neg (by omega)];exact gm4
        ·rw[Tr.get_put,if_neg (by omega)];exact gp4
        ·rw[Tr.get_put,if_neg (by omega)];exact ge4
        ·rw[Tr.get_put,if_neg (by omega)];exact gz4
        ·rw[Tr.get_put,if_neg (by omega)];exact gu4
        ·rw[Tr.get_put,if_pos rfl]
         try simp only[List.map_take]
        ·simp(disch:=omega)only[za6]
         exact hE5
    ·have gnx:g1.get nx'=some (bx 154 [.int .i64 n.fact,.fz 1 false (za5 n.cuts),.fz 1 false (za5 n.kids),.bool n.leaf] false 0):=by
      rw[c1 nx' (by omega)]
      simp[go_sem]
     simp-implicitDefEqProofs[go_sem,za0,gnx,za3]
     generalize hh2:Tr.put _ nx' (some (bx 154 [_,_,AV.sl b 0 _ 0 true,_] false 0))=h2
     obtain⟨vk,hvk⟩:∃vk:AV,vk=.sl b 0 n.kids.length 0 true:=⟨_,rfl⟩
     have hE2:∀a,a<nx'→h2.get a=h'.get a:=by
      intro a ha
      rw[← hh2,Tr.get_put,if_neg (by omega),c1 a (by omega)]
      simp(disch:=omega) [go_sem,NEx]
     have g2:h2.get nx'=some (bx 154 [.int .i64 n.fact,.fz 1 false (za5 n.cuts),vk,.bool n.leaf] false 0):=by
      rw[← hh2]
      simp[go_sem,hvk]
     have hCK:zqd nx' h2 ny1 vk n.kids:=.inr ⟨hk0,b,by omega,c3,hvk,by rw[← hh2];simp[go_sem,show ¬b=nx' by omega,c4]⟩
     clear hh2
     have hF2:FrM o q nx ny p CL h2:=hF.mono hE2 lb q2 hnn
     have hE3:Ext nx h h2:=fun a ha=>by rw[hE2 a (by omega)];exact he a ha
     refine zap (fun mm st=>∃tm h3 nx3 j vk cur,st=.mk tm h3 nx3 []∧mm=n.kids.length-j∧j≤n.kids.length∧tm.get 2=some (.ptr nx 0)∧tm.get 4=some (.ptr (nx+1) 0)∧tm.get 6=some (.ptr (nx+3) 0)∧tm.get 9=some (.ptr (ny+1) 0)∧tm.get 27=some (.sl q 0 o.length 0 true)∧tm.get 28=some (.int .i64 (o.length:Int))∧tm.get 29=some (.int .i64 (k:Int))∧tm.get 10=some (.int .i64 (k:Int))∧tm.get 12=some (.ptr nx' 0)∧tm.get 48=some (.int .i64 (n.kids.length:Int))∧tm.get 49=some (.int .i64 (j:Int))∧
      FrM o q nx ny p CL h3∧Ext nx h h3∧nx'<nx3∧h3.get nx'=some (bx 154 [.int .i64 n.fact,.fz 1 false (za5 n.cuts),vk,.bool n.leaf] false 0)∧
      zqd nx' h3 nx3 vk cur∧RowKit.Hid (cur=(n.kids.take j).map (zcq o)++n.kids.drop j)) ⟨n.kids.length,_,_,_,0,vk,n.kids,rfl,by simp,by simp,?_⟩ ?_
     ·simp-implicitDefEqProofs[go_sem,t2,t4,t6,t9,t27,t28,t29]
      exact⟨hF2,hE3,by omega,g2,hCK,Lib.hid trivial⟩
     ·rintro mm2 st2 ⟨tm,h3,nx3,j,vk,cur,rfl,rfl,hj,t2,t4,t6,t9,t27,t28,t29,t10,t12,t48,t49,hF3,hE4,hn3,g3,hck,hv⟩ J2 hJ2
      obtain⟨gq2,gm2,gp2,ge2,gz2,gu2,gt2⟩:=hF3
      have hF3:FrM o q nx ny p CL h3:=⟨gq2,gm2,gp2,ge2,gz2,gu2,gt2⟩
      by_cases hlt2:j<n.kids.length
      ·refine zag za4 _ ?_
       have hcl:cur.length=n.kids.length:=by rw[hv.out];simp;omega
       rcases hck with⟨hc0,_⟩ |⟨_,b,b1,b2,rfl,gb⟩
       ·rw[hc0]at hcl;simp at hcl;omega
       have hlj:((n.kids.take j).map (zcq o)).length=j:=by simp;omega
       have hcj:cur[j]?=some n.kids[j]:=by
        rw[hv.out,List.getElem?_append_right (by omega),hlj,Nat.sub_self,List.getElem?_drop,Nat.add_zero,List.getElem?_eq_getElem hlt2]
       have hce:=zmt hcj
       have hse:=zu7 cur j (zcq o n.kids[j]) (by omega)
       have hnew:cur.set j (zcq o n.kids[j])=(n.kids.take (j+1)).map (zcq o)++n.kids.drop (j+1):=by
        rw[hv.out,List.take_succ_eq_append_getElem hlt2,List.drop_eq_getElem_cons hlt2,List.set_append_right _ _ (by omega),hlj,Nat.sub_self,List.map_append,List.set_cons_zero,List.append_assoc]
        rfl
       have HV:=Lib.hid hnew
       clear hnew
       have hjc:j<cur.length:=by omega
       have hjc1:j+1≤cur.length:=by omega
       rw[← hcl]at hlt2
       rw[← hcl]at t48
       have k1:¬nx'=b:=by omega
       have k2:¬b=nx':=by omega
       generalize hy:n.kids[j]=y at hce hse HV
       simp-implicitDefEqProofs[go_sem,t2,t4,t6,t9,t27,t28,t29,t10,t12,t48,t49,hlt2]
       refine zbq mixed za4 zbe [11] [] [] (by kernel_rfl) ?_
       simp-implicitDefEqProofs[go_sem,t2,t4,t6,t9,t27,t28,t29,t10,t12,t48,t49,hlt2,hjc,hjc1,g3,gb,gp2,ge2,hce,hse]
       refine hJ2 (n.kids.length-(j+1)) _ (by omega) ⟨_,_,_,j+1,.sl b 0 cur.length 0 true,cur.set j (zcq o y),rfl,rfl,by omega,?_⟩
       simp-implicitDefEqProofs (disch:=omega) [go_sem,t2,t4,t6,t9,t27,t28,t29,t10,t12,t48,t49,zab,hcl,k1,g3]
       refine⟨hF3.mono (m:=nx') (fun a ha=>by rw[Tr.get_put,if_neg (by omega)]) lb q2 hnn,?_,hn3,.inr ⟨?_,b,b1,b2,by simp[hcl],by simp[go_sem]⟩,Lib.hid (by rw[HV.out,List.map_take])⟩
       ·simp(disch:=omega)only[za6]
        exact hE4
       ·intro e
        have:=congrArg List.length e
        simp at this
        rw[this]at hjc
        simp at hjc
      ·have hjj:j=n.kids.length:=by omega
       have hcur:cur=n.kids.map (zcq o):=by
        rw[hv.out,List.take_of_length_le (by omega),List.drop_of_length_le (by omega),List.append_nil]
       obtain⟨nd,hnd⟩:∃nd:Nd,nd=⟨n.fact,n.cuts,n.kids.map (zcq o),n.leaf⟩:=⟨_,rfl⟩
       have hDl:((o.take k).map (zed L o)).length=k:=by simp;omega
       have hsg:za3 CL (k * 4) nd.cs=((o.take (k+1)).map (zed L o)).flatMap Nd.cs++zdi z4 (o.length-(k+1)):=by
        rw[htk,← hnd,← hCL,show o.length-k=(o.length-(k+1))+1 by omega]
        exact zEc hDl (by rw[hz4];rfl)
       have hCLl:CL.length=o.length * 4:=by
        rw[← hCL,List.length_append,zkg,hDl,zBg,hz4]
        simp
        omega
       have hk44:k * 4+4≤CL.length:=by omega
       have hnc:nd.cs=[.int .i64 n.fact,.fz 1 false (za5 n.cuts),.fz 1 false (za5 cur),.bool n.leaf]:=by rw[hnd,hcur];rfl
       rw[hnc]at hsg
       have hkk4:k * 4<CL.length:=by omega
       rcases hck with⟨hc0,rfl⟩ |⟨_,b,b1,b2,rfl,gb⟩
       ·obtain⟨h4,hh4⟩:∃h4,h4=h3:=⟨_,rfl⟩
        have g4:h4.get nx'=some (bx 154 [.int .i64 n.fact,.fz 1 false (za5 n.cuts),.fz 1 false (za5 cur),.bool n.leaf] false 0):=by rw[hh4,g3,hc0];rfl
        have hL4:∀a,a<nx'→h4.get a=h3.get a:=fun a _=>by rw[hh4]
        rw[← hh4]
        have hF4:FrM o q nx ny p CL h4:=hF3.mono (m:=nx') (fun a ha=>hL4 a ha) lb q2 hnn
        have hE5:Ext nx h h4:=fun a ha=>by rw[hL4 a (by omega)];exact hE4 a ha
        clear hh4
        obtain⟨gq4,gm4,gp4,ge4,gz4,gu4,gt4⟩:=hF4
        have hF4:FrM o q nx ny p CL h4:=⟨gq4,gm4,gp4,ge4,gz4,gu4,gt4⟩
        refine zag za4 _ ?_
        have hjn:¬j<n.kids.length:=hlt2
        simp-implicitDefEqProofs[go_sem,t2,t4,t6,t9,t27,t28,t29,t10,t12,t48,t49,hjn,g4,gu4,gt4,hlt,hk44,hsg]
        refine hJ (o.length-(k+1)) _ (by omega) ⟨_,_,_,k+1,rfl,rfl,by omega,?_⟩
        simp-implicitDefEqProofs (disch:=omega) [go_sem,t2,t4,t6,t9,t27,t28,t29,zab]
        refine⟨⟨?_,?_,?_,?_,?_,?_,?_⟩,?_,by omega⟩
        ·rw[Tr.get_put,if_neg (by omega)];exact gq4
        ·rw[Tr.get_put,if_neg (by omega)];exact gm4
        ·rw[Tr.get_put,if_neg (by omega)];exact gp4
        ·rw[Tr.get_put,if_neg (by omega)];exact ge4
        ·rw[Tr.get_put,if_neg (by omega)];exact gz4
        ·rw[Tr.get_put,if_neg (by omega)];exact gu4
        ·rw[Tr.get_put,if_pos rfl]
         try simp only[List.map_take]
        ·simp(disch:=omega)only[za6]
         exact hE5
       ·obtain⟨h4,hh4⟩:∃h4,h4=(zdd h3 [b]).put nx' (some (bx 154 [.int .i64 n.fact,.fz 1 false (za5 n.cuts),.fz 1 false (za5 cur),.bool n.leaf] false 0)):=⟨_,rfl⟩
        have g4:h4.get nx'=some (bx 154 [.int .i64 n.fact,.fz 1 false (za5 n.cuts),.fz 1 false (za5 cur),.bool n.leaf] false 0):=by rw[hh4];simp[go_sem]
        have hL4:∀a,a<nx'→h4.get a=h3.get a:=fun a ha=>by rw[hh4,Tr.get_put,if_neg (by omega),zfa (by simp;omega)]
        refine znf (fun a=>a∈[b]) (h':=h4) (tm':=tm) ?_ FyT.refl ?_
        ·rw[hh4]
         refine FyH.put (FyH.kill _) (by simp;omega) g3 (.cells _ _ _ _ _ _ fun a ha v hv'=>?_)
         rw[zbt]at hv' ⊢
         rcases a with _ |_ |_ |_ |a
         ·simp at hv';subst hv';exact⟨_,rfl,.same _⟩
         ·simp at hv';subst hv';exact⟨_,rfl,.same _⟩
         ·simp at hv';subst hv';exact⟨_,rfl,fyI (s:=cur) (r:=[]) (by simp) (by rw[List.append_nil];exact gb)⟩
         ·simp at hv';subst hv';exact⟨_,rfl,.same _⟩
         ·simp at hv'
        have hF4:FrM o q nx ny p CL h4:=hF3.mono (m:=nx') (fun a ha=>hL4 a ha) lb q2 hnn
        have hE5:Ext nx h h4:=fun a ha=>by rw[hL4 a (by omega)];exact hE4 a ha
        clear hh4
        obtain⟨gq4,gm4,gp4,ge4,gz4,gu4,gt4⟩:=hF4
        have hF4:FrM o q nx ny p CL h4:=⟨gq4,gm4,gp4,ge4,gz4,gu4,gt4⟩
        refine zag za4 _ ?_
        have hjn:¬j<n.kids.length:=hlt2
        simp-implicitDefEqProofs[go_sem,t2,t4,t6,t9,t27,t28,t29,t10,t12,t48,t49,hjn,g4,gu4,gt4,hlt,hk44,hsg]
        refine hJ (o.length-(k+1)) _ (by omega) ⟨_,_,_,k+1,rfl,rfl,by omega,?_⟩
        simp-implicitDefEqProofs (disch:=omega) [go_sem,t2,t4,t6,t9,t27,t28,t29,zab]
        refine⟨⟨?_,?_,?_,?_,?_,?_,?_⟩,?_,by omega⟩
        ·rw[Tr.get_put,if_neg (by omega)];exact gq4
        ·rw[Tr.get_put,if_neg (by omega)];exact gm4
        ·rw[Tr.get_put,if_neg (by omega)];exact gp4
        ·rw[Tr.get_put,if_neg (by omega)];exact ge4
        ·rw[Tr.get_put,if_neg (by omega)];exact gz4
        ·rw[Tr.get_put,if_neg (by omega)];exact gu4
        ·rw[Tr.get_put,if_pos rfl]
         try simp only[List.map_take]
        ·simp(disch:=omega)only[za6]
         exact hE5
   ·have hkk:k=o.length:=by omega
    subst hkk
    simp-implicitDefEqProofs[go_sem,t2,t4,t6,t9,t27,t28,t29,gu',gz',za3]
    refine hR _ _ _ (.tup [.agg [.fz 4 false (zal (o.map (zed L o)))],.int .i64 0]) ?_ ?_ (.same _)
    ·simp(disch:=omega)only[za6]
     exact he
    ·refine .tup _ _ (.cons _ _ _ _ (.agg _ _ (.cons _ _ _ _ ?_ .nil)) (.cons _ _ _ _ (.int _ _) .nil))
     have hlen:o.length=(o.map (zed L o)).length:=by simp
     have hblk:(h'.put (nx+1) (some (bx 92 [.sl ny 0 o.length o.length false] false 0))).get ny=some (bx 154 ((o.map (zed L o)).flatMap Nd.cs) false 0):=by
      rw[List.take_length,Nat.sub_self,zzh,List.append_nil]at gt'
      simp(disch:=omega) [go_sem,NEx,show ¬ny=nx+1 by omega,gt']
     have:=fzN (nx:=nx) (s:=o.map (zed L o)) (cp:=o.length) (op:=false) (by omega) hblk
     rw[← hlen]at this
     exact this
end
end Go.Ev
