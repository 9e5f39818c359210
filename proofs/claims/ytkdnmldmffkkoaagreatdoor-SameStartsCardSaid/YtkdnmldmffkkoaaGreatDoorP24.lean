/- Texts T55 T56 T57 T58 T59. -/
import Derived.Test.YtkdnmldmffkkoaaGreatDoorP23
set_option linter.unusedSimpArgs false
set_option linter.unusedVariables false
set_option maxRecDepth 100000
namespace Go.Ev
open Go.Proofs Go.RowKit
noncomputable section
attribute [-go_sem] zaf zac zay zbj
theorem GSt.but {O:Nat→Prop}{e b q:Nat}{u:Bool}{d:List Fc}{S:GS}{h g:Tr ABlk}{nx ny:Nat}(G:GSt O e b u d S h nx)(hq:b+6≤q)(hO:¬O q)(x:∀k,k<nx→k≠q→g.get k=h.get k)(hn:nx≤ny):GSt O e b u d S g ny:=by
 obtain⟨le,lb,hO,ge,gm,gd,gv,gf,gg,mk⟩:=G
 refine⟨le,by omega,hO,?_,?_,?_,?_,?_,?_,mk.mono (fun _ q=>q) (fun k hk hk2=>x k hk (fun e2=>by subst e2;contradiction)) hn⟩
 all_goals (rw[x _ (by omega) (by omega)];assumption)
theorem KG.but {O O1:Nat→Prop}{b q:Nat}{h g f:Tr ABlk}{nx n1 n2:Nat}(K:KG O b h nx O1 g n1)(hq:nx≤q)(x:∀k,k<n1→k≠q→f.get k=g.get k)(hn:n1≤n2):KG O b h nx O1 f n2:=by
 obtain⟨a1,a2,a3⟩:=K
 exact⟨by omega,fun k k1 k2 k3 k4=>by rw[x k (by omega) (by omega),a2 k k1 k2 k3 k4],a3⟩
def KdI (lo:Nat)(O:Nat→Prop)(h:Tr ABlk) (nx:Nat)(v:AV)(ks:List Int):Prop:=(ks=[]∧v=.sl0)∨(ks≠[]∧∃q,lo≤q∧q<nx∧¬O q∧v=.sl q 0 ks.length 0 true∧h.get q=some (bx 3 (za5 ks) true 1))
theorem zPh (g:Int→GS→Int×GS) (v:Int)(l:List Int)(S:GS):zc1 g (v::l) S=((g v S).1::(zc1 g l (g v S).2).1,(zc1 g l (g v S).2).2):=rfl
set_option maxHeartbeats 4000000 in
theorem zRp (d:List Fc)(hd:d.length≤1000)(hv:∀x∈d,x.lo≤x.hi∧I64 x.lo∧I64 x.hi)(u:Bool) (e b k i:Nat)(f:Fm)(S:GS)(O:Nat→Prop)(h:Tr ABlk) (nx:Nat)(R:AV→Tr ABlk→Nat→Prop)(hi:i+(k+1)=d.length)(hfG:FmG f)(hfs:f.size≤1000)(hno:¬(f.op=1∨f.op=2))(hnf:zdy S=false)(hGI:GI S)(hG:GSt O e b u d S h nx)(hOl:∀k,O k→k<nx)(hR:zi1 d u e b (k+1) f S O h nx R)
  (ih:∀(f:Fm) (S:GS) (O:Nat→Prop) (h:Tr ABlk) (nx:Nat) (R:AV→Tr ABlk→Nat→Prop),FmG f→f.size≤1000→GI S→inn S.L≤20000+d.length+1→GSt O e b u d S h nx→zi1 d u e b k f S O h nx R→
   za7 Tryz.prog cx 138 [.agg f.cs,.int .i64 ((i:Int)+1),.ptr (b+1) 0,.ptr (b+4) 0,.ptr e 0,.ptr (b+3) 0,.ptr (b+5) 0] h nx R):
  za7 Tryz.prog cx 138 [.agg f.cs,.int .i64 (i:Int),.ptr (b+1) 0,.ptr (b+4) 0,.ptr e 0,.ptr (b+3) 0,.ptr (b+5) 0] h nx R:=by
 have hF:S.full=false:=by unfold zdy at hnf;simp at hnf;exact hnf.1
 have hbig:¬20000<S.L.length:=by unfold zdy at hnf;simp at hnf;omega
 have hbigI:¬(20000:Int)<(S.L.length:Int):=by omega
 have hsp:(ze3 f).length≤1100000:=by have:=hfG.spell;omega
 have hfI:FmI f:=hfG.I
 have hspn:=zRb f
 have hlb:=hG.lb
 have hle:=hG.le
 have hgm:=hG.gm
 have hge:=hG.ge
 have hgf:=hG.gf
 obtain⟨ma,mc,gb,hA⟩:=hG.all
 have b1:¬b+1=nx:=by omega
 have b2:¬b+4=nx:=by omega
 have b3:¬e=nx:=by omega
 have b4:¬b=nx:=by omega
 have b5:¬e=b+4:=by omega
 have b6:¬nx=b+4:=by omega
 have b7:¬nx=nx+1:=by omega
 have b8:¬nx+1=b+4:=by omega
 have o1:¬f.op=1:=fun q=>hno (.inl q)
 have o2:¬f.op=2:=fun q=>hno (.inr q)
 have hid:¬i=d.length:=by omega
 obtain⟨fcs,hfcs⟩:∃l,l=f.cs:=⟨_,rfl⟩
 have hf5:fcs.length=5:=by rw[hfcs];cases f;rfl
 have hf0:∀hh,fcs[0]'hh=.int .i64 f.op:=by subst hfcs;intro hh;cases f;rfl
 have hft:fcs.take 5=fcs:=List.take_of_length_le (by omega)
 have hlD:(za8 d).length=d.length:=by simp[za8]
 rw[← hfcs]
 rw[hF]at hgf
 have hi0:(i:Int)<1000:=by omega
 refine zaa (sz:=107) (rs:=[.tmp 9]) za4 zEj rfl rfl rfl (by simp) ?_
 obtain⟨Box,hBox⟩:∃B,B=some (bx 24 fcs false 0):=⟨_,rfl⟩
 have hG2:=(hG.ext (g:=h.put nx Box) (by simp(disch:=omega)only[za6];exact Ext.refl _ _) (Nat.le_succ nx)).setF false
 have hKG2:KG O b h nx O ((h.put nx Box).put (b+4) (some (bx 4 [.bool false] false 0))) (nx+1):=(KG.ofExt (by simp(disch:=omega)only[za6];exact Ext.refl _ _) (Nat.le_succ nx)).trans (KG.setF _)
 have hLA:∀(e:TypeId) (size b:Nat) (z:Option AV) (fs:List (Nat×Nat×Bool)) (g:Tr ABlk) (n:Nat),zdu (.mk (.slice e) size b z fs) ma g n=.val (.int .i64 (S.L.length:Int)) g n:=by
  intro e' size b' z fs g n
  rcases hA with⟨h0,ha⟩ |⟨q,ha⟩
  ·rw[ha,znk,h0];rfl
  ·rw[ha,zo8]
 clear hA
 have hidI:¬(i:Int)=(d.length:Int):=by omega
 simp-implicitDefEqProofs[go_sem,hgm,hgf,hge,gb,b1,b2,b3,b4,b5,b6,b7,b8,o1,o2,hbig,hbigI,hLA,hlD,hf5,hf0,hft,za3,hid,hidI]
 have E0:Ext nx h (h.put nx (some (bx 24 fcs false 0))):=by simp(disch:=omega)only[za6];exact Ext.refl _ _
 have hGM:=(hG.ext E0 (Nat.le_succ nx)).setF false
 have hKM:KG O b h nx O _ (nx+1):=(KG.ofExt E0 (Nat.le_succ nx)).trans (KG.setF (some (bx 4 [.bool false] false 0)))
 have hMb:((h.put nx (some (bx 24 fcs false 0))).put (b+4) (some (bx 4 [.bool false] false 0))).get nx=some (bx 24 fcs false 0):=by simp[go_sem,b6]
 generalize hM:(h.put nx (some (bx 24 fcs false 0))).put (b+4) (some (bx 4 [.bool false] false 0))=M at hGM hKM hMb
 have hdom:=hGM.ge
 clear hM E0 hgm hge hgf gb hLA hf0
 have hBu:zg7 (M.put (nx+1) (some (bx 192 [.ptr0,.sl0] false 0))) (nx+1+1) (nx+1) (nx+1) []:=⟨by omega,.inl ⟨rfl,by simp[go_sem]⟩⟩
 conv=>arg 4;rw[hfcs]
 refine zM8 f.size (nx+1) f [] _ _ (nx+1) _ (Nat.le_refl _) (by omega) hfI hBu (by simp;omega) fun v g ny q' c1 c2 c3 c4=>?_
 have hq':nx+1<q':=by
  rcases c4.2 with⟨e1,_⟩ |⟨_,_,e1,_⟩
  ·exact absurd e1 (by simpa using hspn)
  ·omega
 have E1:Ext (nx+1) M (g.put q' none):=fun k1 hk1=>by
  rw[Tr.get_put,if_neg (by omega),c2 k1 (by omega) (by omega) (by omega),Tr.get_put,if_neg (by omega)]
 have hG3:=hGM.ext E1 (show nx+1≤ny by omega)
 have hK3:KG O b h nx O (g.put q' none) ny:=hKM.trans (KG.ofExt E1 (by omega))
 have hb3:(g.put q' none).get nx=some (bx 24 fcs false 0):=by rw[E1 nx (by omega)];exact hMb
 rw[List.nil_append]at c4
 simp-implicitDefEqProofs[go_sem,za0]
 refine Ret.use (zri (i:Int) (by omega) (by omega)) ?_
 simp-implicitDefEqProofs[go_sem,za0]
 have hil:=zid (i:Int) ⟨by omega,by omega⟩
 obtain⟨ta,hta⟩:∃t:ByteArray,t=⟨(Lib.itoa (i:Int)).toArray⟩:=⟨_,rfl⟩
 obtain⟨tb,htb⟩:∃t:ByteArray,t=⟨(ze3 f).toArray⟩:=⟨_,rfl⟩
 have hz:ta.size+tb.size≤9223372036854775807:=by
  rw[hta,htb]
  simp[ByteArray.size]
  omega
 have htx:zla i f=ta++tb:=by rw[hta,htb];rfl
 refine zSx g ny (nx+1) q' (ze3 f) hspn (by omega) c4 _ ?_
 rw[← hta,← htb]
 generalize (g.put q' none)=M3 at hG3 hK3 hb3
 clear c2 c3 c4 E1 hGM hKM hMb hdom hta htb hBu hq'
 have gm3:=hG3.gm
 have ge3:=hG3.ge
 have gv3:=hG3.gv
 have gd3:=hG3.gd
 have gg3:=hG3.gg
 cases hgt:ze6 (ta++tb) S.D with
 |some v=>
  obtain⟨j,f1,f2,f3⟩:=zpq 0 hgt
  simp-implicitDefEqProofs[go_sem,za0,hz,gv3,gd3,f1,zac]
  have hgr:zb5 d (k+1) f S=(v,{ S with full:=false }):=by
   rw[zb5,if_neg hno,hnf,show d.length-(k+1)=i by omega,htx,hgt]
   rfl
  unfold zi1 at hR
  rw[hgr]at hR
  exact hR O _ ny hK3 hG3
 |none=>
  have f1:=zr7 0 hgt
  simp-implicitDefEqProofs[go_sem,za0,hz,gv3,gd3,f1,zac]
  have hil:i<d.length:=by omega
  obtain⟨x,hx⟩:∃x,x=d[i]:=⟨_,rfl⟩
  have hxm:x∈d:=by rw[hx];exact List.getElem_mem hil
  obtain⟨v1,v2,v3⟩:=hv x hxm
  have hxD:d.getD i ⟨.empty,0,0,0⟩=x:=by
   rw[hx,List.getD_eq_getElem?_getD,List.getElem?_eq_getElem hil]
   rfl
  have hgr:zb5 d (k+1) f S=((zdg i (zcg f x) (zc1 (fun v S=>zb5 d k (zb6 x.name v f) S) (zcg f x) { S with full:=false }).1 (zc1 (fun v S=>zb5 d k (zb6 x.name v f) S) (zcg f x) { S with full:=false }).2).1,{ (zdg i (zcg f x) (zc1 (fun v S=>zb5 d k (zb6 x.name v f) S) (zcg f x) { S with full:=false }).1 (zc1 (fun v S=>zb5 d k (zb6 x.name v f) S) (zcg f x) { S with full:=false }).2).2 with D:=zej (ta++tb) (zdg i (zcg f x) (zc1 (fun v S=>zb5 d k (zb6 x.name v f) S) (zcg f x) { S with full:=false }).1 (zc1 (fun v S=>zb5 d k (zb6 x.name v f) S) (zcg f x) { S with full:=false }).2).1 (zdg i (zcg f x) (zc1 (fun v S=>zb5 d k (zb6 x.name v f) S) (zcg f x) { S with full:=false }).1 (zc1 (fun v S=>zb5 d k (zb6 x.name v f) S) (zcg f x) { S with full:=false }).2).2.D }):=by
   rw[zb5,if_neg hno,hnf,show d.length-(k+1)=i by omega,htx,hgt,hxD]
   rfl
  have hst:=zGv f x (by omega)
  rw[← hfcs]at hst
  have hsl:=zwy f x
  have hsne:=zCx f x v1
  have hsin:∀a∈zcg f x,I64 a:=fun a ha=>by
   have:=zC0 f x a ha
   obtain⟨p1,p2⟩:=v2
   obtain⟨p3,p4⟩:=v3
   exact⟨by omega,by omega⟩
  generalize zcg f x=sts at hst hsl hsne hsin hgr
  generalize hgg:(fun v S=>zb5 d k (zb6 x.name v f) S)=gg at hgr
  obtain⟨FG,hFG⟩:∃FG,FG=zc1 gg sts { S with full:=false }:=⟨_,rfl⟩
  rw[← hFG]at hgr
  refine zbq mixed za4 zbe [] [6] [] (by kernel_rfl) ?_
  simp-implicitDefEqProofs[go_sem,hb3,ge3,hil,← hx,hf5,hft,za3]
  refine zbm hst ?_
  simp-implicitDefEqProofs[go_sem,zas]
  have hnO:¬O nx:=fun q=>by have:=hOl nx q;omega
  have hin0:inn S.L≤20000:=Nat.le_trans (List.length_filter_le _ _) (by omega)
  have hxcs:Fc.cs x=[.bs x.name,.int .i64 x.kind,.int .i64 x.lo,.int .i64 x.hi]:=by cases x;rfl
  have w1:IntKind.i64.wrap ((i:Int)+1)=(i:Int)+1:=by rw[zab] <;> omega
  refine zap (fun mm st=>∃tm h' nx' j O' S' ks kv,st=.mk tm h' nx' []∧mm=sts.length-j∧j≤sts.length∧tm.get 1=some (.int .i64 (i:Int))∧tm.get 2=some (.ptr (b+1) 0)∧tm.get 4=some (.ptr e 0)∧tm.get 5=some (.ptr (b+3) 0)∧tm.get 6=some (.ptr (b+5) 0)∧tm.get 7=some (.ptr nx 0)∧tm.get 11=some (.bs (ta++tb))∧tm.get 14=some (.fz 1 false (za5 sts))∧tm.get 15=some kv∧tm.get 75=some (.fz 1 false (za5 sts))∧tm.get 76=some (.int .i64 (sts.length:Int))∧tm.get 77=some (.int .i64 (j:Int))∧
   KdI ny O' h' nx' kv ks∧ks.length=j∧KG O b M3 ny O' h' nx'∧GSt O' e b u d S' h' nx'∧(∀a,O' a→a<nx')∧GI S'∧inn S'.L≤20000+k∧(∀a∈ks,0≤a∧a<(S'.L.length:Int))∧
   RowKit.Hid (FG=(ks++(zc1 gg (sts.drop j) S').1,(zc1 gg (sts.drop j) S').2))) ⟨sts.length,_,_,_,0,O,{ S with full:=false },[],.sl0,rfl,by simp,by simp,?_⟩ ?_
  ·simp-implicitDefEqProofs[go_sem]
   exact⟨.inl ⟨rfl,rfl⟩,KG.ofExt (Ext.refl _ _) (Nat.le_refl _),hG3,fun a ha=>by have:=hOl a ha;omega,hGI.full false,by omega,Lib.hid hFG⟩
  ·rintro mm st ⟨tm,h',nx',j,O',S',ks,kv,rfl,rfl,hj,t1,t2,t4,t5,t6,t7,t11,t14,t15,t75,t76,t77,hkd,hkl,hKG,hGS,hOl',hGI',hinn,hkr,hv'⟩ J hJ
   refine zag za4 _ ?_
   have hbox:h'.get nx=some (bx 24 fcs false 0):=by rw[hKG.2.1 nx (by omega) hnO (by omega) (by omega)];exact hb3
   have hge':=hGS.ge
   have hgg':=hGS.gg
   have hgm':=hGS.gm
   have hL':=hGI'.len
   by_cases hlt:j<sts.length
   ·obtain⟨y,hy⟩:∃y,y=sts[j]:=⟨_,rfl⟩
    have hv1:=hv'.out
    rw[List.drop_eq_getElem_cons hlt,← hy,zPh]at hv1
    have HV:=Lib.hid hv1
    clear hv1 hv'
    have hgv:=zD5 f.size f x.name y (Nat.le_refl _) (by omega) hfG.notOk
    rw[← hfcs]at hgv
    obtain⟨gG,gS⟩:=zmq x.name y hfG
    simp-implicitDefEqProofs[go_sem,t1,t2,t4,t5,t6,t7,t11,t14,t15,t75,t76,t77,hlt,← hy]
    refine znm mixed za4 zbe 13 [] [10] [] [(0,15,81)] 2 (by kernel_rfl) (by kernel_rfl) ?_
    simp-implicitDefEqProofs[go_sem,t1,t2,t4,t5,t6,t7,t11,t14,t15,t75,t76,t77,hbox,hge',hgg',hil,← hx,hxcs,hf5,hft,za3,w1]
    refine zbm hgv ?_
    simp-implicitDefEqProofs[go_sem,zas,w1,t1,t2,t4,t5,t6,t7,t11,t14,t15,t75,t76,t77]
    have hgok:=zp7 d hd hv k (zb6 x.name y f) S' (by omega) gG (by omega) hGI' (by omega)
    have HVg:gg y S'=zb5 d k (zb6 x.name y f) S':=by rw[← hgg]
    rw[HVg]at HV
    refine ih _ S' O' h' nx' _ gG (by omega) hGI' (by omega) hGS ?_
    intro O2 g2 n2 K2' G2'
    have K2:=K2'.low
    have G2:=G2'.low
    clear K2' G2'
    generalize zb5 d k (zb6 x.name y f) S'=GV at hgok HV G2 ⊢
    obtain⟨w,S2⟩:=GV
    obtain⟨q1,q2,q3,q4⟩:=hgok
    simp only at q1 q2 q3 q4 G2 ⊢
    have q3l:=q3.len
    have hKn:=hKG.1
    have hn2:=K2.1
    have hKG2:=hKG.trans K2
    have hks2:∀a,a∈ks∨a=w→0≤a∧a<(S2.L.length:Int):=fun a ha=>by
     rcases ha with ha |rfl
     ·have:=hkr a ha;omega
     ·exact q2
    rcases hkd with⟨rfl,rfl⟩ |⟨hk0,q,lq,qn,qO,rfl,gq⟩
    ·simp-implicitDefEqProofs[go_sem,za0,t1,t2,t4,t5,t6,t7,t11,t14,t15,t75,t76,t77]
     refine hJ (sts.length-(j+1)) _ (by omega) ⟨_,_,_,j+1,fun k=>O2 k∧k<n2,S2,[w],.sl (n2+1) 0 1 0 true,rfl,rfl,by omega,?_⟩
     simp-implicitDefEqProofs (disch:=omega) [go_sem,t1,t2,t4,t5,t6,t7,t11,t14,t15,t75,t76,t77,zab]
     refine⟨.inr ⟨by simp,n2+1,by omega,by omega,fun hq=>by omega,rfl,by simp[go_sem,za5]⟩,by simp at hkl;omega,hKG2.but (q:=n2) (by omega) (fun k k1 k2=>by rw[Tr.get_put,if_neg (by omega),Tr.get_put,if_neg (by omega)]) (by omega),G2.but (q:=n2) (by omega) (fun hq=>by omega) (fun k k1 k2=>by rw[Tr.get_put,if_neg (by omega),Tr.get_put,if_neg (by omega)]) (by omega),by intros;omega,q1,by omega,?_,Lib.hid (by have:=HV.out;simpa using this)⟩
     exact q2
    ·have qO2:¬(O2 q∧q<n2):=fun hq=>by
      rcases K2.2.2 q hq with r |r
      ·exact qO r
      ·omega
     have gq2:g2.get q=some (bx 3 (za5 ks) true 1):=by rw[K2.2.1 q qn qO (by omega) (by omega)];exact gq
     have z1:¬q=n2:=by omega
     have z2:¬n2=q:=by omega
     have z3:¬n2+1=q:=by omega
     have fo:=zi2 ks
     have hle1:ks.length+1≤16777216:=by omega
     simp-implicitDefEqProofs[go_sem,za0,t1,t2,t4,t5,t6,t7,t11,t14,t15,t75,t76,t77,gq2,z1,z2,z3,fo,hle1]
     refine hJ (sts.length-(j+1)) _ (by omega) ⟨_,_,_,j+1,fun k=>O2 k∧k<n2,S2,ks++[w],.sl (n2+1) 0 (ks.length+1) 0 true,rfl,rfl,by omega,?_⟩
     simp-implicitDefEqProofs (disch:=omega) [go_sem,t1,t2,t4,t5,t6,t7,t11,t14,t15,t75,t76,t77,zab]
     refine⟨.inr ⟨by simp,n2+1,by omega,by omega,fun hq=>by omega,by simp,by simp[go_sem,za5]⟩,hkl,hKG2.but (q:=q) (by omega) (fun k k1 k2=>by rw[Tr.get_put,if_neg (by omega),Tr.get_put,if_neg (by omega),Tr.get_put,if_neg (by omega)]) (by omega),G2.but (q:=q) (by omega) qO2 (fun k k1 k2=>by rw[Tr.get_put,if_neg (by omega),Tr.get_put,if_neg (by omega),Tr.get_put,if_neg (by omega)]) (by omega),by intros;omega,q1,by omega,hks2,Lib.hid (by have:=HV.out;simpa using this)⟩
   ·have hks1:FG=(ks,S'):=by
     have:=hv'.out
     rw[List.drop_of_length_le (by omega)]at this
     simpa[zc1]using this
    have hkl2:ks.length=sts.length:=by omega
    rcases hkd with⟨rfl,_⟩ |⟨hk0,q,lq,qn,qO,rfl,gq⟩
    ·exact absurd (List.eq_nil_of_length_eq_zero (by simpa using hkl2.symm)) hsne
    obtain⟨k0,kt,hkc⟩:∃k0 kt,ks=k0::kt:=by
     cases ks with
     |nil=>exact absurd rfl hk0
     |cons a l=>exact⟨a,l,rfl⟩
    have hkI:∀a∈k0::kt,I64 a:=fun a ha=>by
     have:=hkr a (by rw[hkc];exact ha)
     exact⟨by omega,by omega⟩
    have hkcl:(k0::kt).length=sts.length:=by rw[← hkc];exact hkl2
    simp-implicitDefEqProofs[go_sem,t1,t2,t4,t5,t6,t7,t11,t14,t15,t75,t76,t77,hlt,hgm']
    refine zng (fun a=>a∈[q]) (FyH.kill _) (args':=[.ptr b 0,.int .i64 (i:Int),.fz 1 false (za5 sts),.fz 1 false (za5 (k0::kt))]) ?_ ?_
    ·rw[← hkc]
     exact .cons _ _ _ _ (.same _) (.cons _ _ _ _ (.same _) (.cons _ _ _ _ (.same _) (.cons _ _ _ _ (fyI (s:=ks) (r:=[]) (by simp) (by rw[List.append_nil];exact gq)) .nil)))
    have hGK:GSt O' e b u d S' (zdd h' [q]) nx':=hGS.but (q:=q) (by omega) qO (fun k k1 k2=>zfa (by simp;exact k2)) (Nat.le_refl _)
    have hKK:KG O b M3 ny O' (zdd h' [q]) nx':=hKG.but lq (fun k k1 k2=>zfa (by simp;exact k2)) (Nat.le_refl _)
    have fin:∀(w:Int) (O2:Nat→Prop) (S2:GS) (g2:Tr ABlk) (n2:Nat),KG O b M3 ny O2 g2 n2→GSt O2 e b u d S2 g2 n2→zdg i sts ks S'=(w,S2)→R (.int .i64 w) (g2.put (b+2) (some (.map (dmE (zej (ta++tb) w S2.D) 0) (zej (ta++tb) w S2.D).length))) n2:=by
     intro w O2 S2 g2 n2 K2 G2 hI
     unfold zi1 at hR
     rw[hgr,hks1]at hR
     simp only[hI]at hR
     exact hR O2 _ n2 (hK3.trans (K2.trans (KG.setD _))) (G2.setD _)
    have hIn:zdg i sts ks S'=if (zax k0 [] [k0] sts (k0::kt)).2.2.length=1 then (k0,S') else zbn ⟨(i:Int),(zax k0 [] [k0] sts (k0::kt)).2.1,(zax k0 [] [k0] sts (k0::kt)).2.2,false⟩ S':=by
     rw[hkc];rfl
    refine zCt O' _ nx' b S'.L (i:Int) k0 sts kt false false hGK.mkS (by omega) ⟨by omega,by omega⟩ hsin hkI (by omega) (by omega) ⟨(i:Int),(zax k0 [] [k0] sts (k0::kt)).2.1,(zax k0 [] [k0] sts (k0::kt)).2.2,false⟩ rfl _ (fun g2 n2 c1 c2 c3=>?_) (fun O2 g2 n2 c1 c2 c3 c4=>?_)
    ·have G2:=hGK.ext c2 c3
     have fn:=fin k0 O' S' g2 n2 (hKK.trans (KG.ofExt c2 c3)) G2 (by rw[hIn,if_pos c1])
     have gv2:=G2.gv
     have gd2:=G2.gd
     cases hg2:ze6 (ta++tb) S'.D with
     |none=>
      have f2:=zr7 0 hg2
      rw[ztq hg2,zvl]at fn
      simp-implicitDefEqProofs[go_sem,za0,t1,t2,t4,t5,t6,t7,t11,t14,t15,t75,t76,t77,gv2,gd2,f2]
      simpa using fn
     |some v2=>
      obtain⟨j2,f2,f3,f4⟩:=zpq 0 hg2
      rw[← f4,ztp hg2]at fn
      simp-implicitDefEqProofs[go_sem,za0,t1,t2,t4,t5,t6,t7,t11,t14,t15,t75,t76,t77,gv2,gd2,f2]
      exact fn
    ·have G2:=hGK.node c3 c4
     have fn:=fin _ O2 _ g2 n2 (hKK.trans (KG.ofKept c3)) G2 (by rw[hIn,if_neg c1];rfl)
     have gv2:=G2.gv
     have gd2:=G2.gd
     simp only at fn gd2
     cases hg2:ze6 (ta++tb) S'.D with
     |none=>
      have f2:=zr7 0 hg2
      rw[ztq hg2,zvl]at fn
      simp-implicitDefEqProofs[go_sem,za0,t1,t2,t4,t5,t6,t7,t11,t14,t15,t75,t76,t77,gv2,gd2,f2]
      simpa using fn
     |some v2=>
      obtain⟨j2,f2,f3,f4⟩:=zpq 0 hg2
      rw[← f4,ztp hg2]at fn
      simp-implicitDefEqProofs[go_sem,za0,t1,t2,t4,t5,t6,t7,t11,t14,t15,t75,t76,t77,gv2,gd2,f2]
      exact fn
end
end Go.Ev
namespace Go.Ev
open Go.Proofs Go.RowKit
noncomputable section
theorem zOt (d:List Fc)(hd:d.length≤1000)(hv:∀x∈d,x.lo≤x.hi∧I64 x.lo∧I64 x.hi)(u:Bool) (e b:Nat):∀(k i:Nat)(f:Fm)(S:GS)(O:Nat→Prop)(h:Tr ABlk) (nx:Nat)(R:AV→Tr ABlk→Nat→Prop),i+k=d.length→FmG f→f.size≤1000→GI S→inn S.L≤20000+d.length+1→GSt O e b u d S h nx→zi1 d u e b k f S O h nx R→
  za7 Tryz.prog cx 138 [.agg f.cs,.int .i64 (i:Int),.ptr (b+1) 0,.ptr (b+4) 0,.ptr e 0,.ptr (b+3) 0,.ptr (b+5) 0] h nx R:=by
 intro k
 induction k with
 |zero=>
  intro i f S O h nx R hi hf hs hI hn hG hR
  have:=hI.len
  refine zv2 d u e b 0 i f S O h nx R (by omega) hG hR (fun q=>?_) (fun q=>?_) (.inr (.inr (by omega)))
  ·rw[zb5,if_pos q]
  ·rw[zb5,if_neg q]
 |succ k ih=>
  intro i f S O h nx R hi hf hs hI hn hG hR
  have:=hI.len
  by_cases q:f.op=1∨f.op=2
  ·refine zv2 d u e b (k+1) i f S O h nx R (by omega) hG hR (fun q=>?_) (fun q2=>absurd q q2) (.inl q)
   rw[zb5,if_pos q]
  ·cases hF:zdy S with
   |true=>
    refine zv2 d u e b (k+1) i f S O h nx R (by omega) hG hR (fun q2=>absurd q2 q) (fun q2=>?_) (.inr (.inl hF))
    rw[zb5,if_neg q,if_pos hF,hF]
   |false=>
    refine zRp d hd hv u e b k i f S (fun k=>O k∧k<nx) h nx R (by omega) hf hs q hF hI hG.low (fun k hk=>hk.2) (fun O' g ny K G=>hR O' g ny K.up G) fun f S O h nx R hf hs hI hn hG hR=>?_
    have:=ih (i+1) f S O h nx R (by omega) hf hs hI hn hG hR
    simpa using this
end
end Go.Ev
namespace Go.Ev
open Go.Proofs Go.RowKit
noncomputable section
attribute [-go_sem] zaf zac zay zbj
theorem zLt:cx.ft.get 93=some Tryz.f93:=za9 (by decide) (by kernel_rfl)
def zhg (c:Int):AV:=.tup [.agg [.fz 4 false []],.int .i64 c]
def zeg (d:List Fc)(f:Fm):Int×GS:=zb5 d d.length (zb6 .empty 0 f) ⟨[],[],false⟩
def zme (c:Int)(d:List Fc)(f:Fm):AV:=
 if zc5 d=false∨c≠0 then zhg 1 else if 24<(zct [] f).length then zhg 2 else if (zeg d f).2.full=true∨20000<(zc8 (zeg d f).2.L (zeg d f).1).length then zhg 2 else .tup [.agg [.fz 4 false (zal (zdh (zeg d f).2.L (zeg d f).1))],.int .i64 0]
set_option maxHeartbeats 4000000 in
theorem zQc (u:Bool)(d:List Fc)(f:Fm) (c:Int)(hl:d.length≤1000000000)(hs:∀f∈d,f.name.size≤1000000000)(hf:f.size≤1000000)
  (hC:Ret Tryz.prog cx 38 [.agg f.cs,.agg [.fz 4 u (za8 d)],.sl0] (.int .i64 c))
  (hOk:zc5 d=true→c=0→FmG f∧f.size≤1000∧d.length≤1000∧∀x∈d,x.lo≤x.hi∧I64 x.lo∧I64 x.hi):
  Ret Tryz.prog cx 93 [.agg f.cs,.agg [.fz 4 u (za8 d)]] (zme c d f):=by
 refine Ret.mkW fun h nx R hR=>zaa (sz:=42) (rs:=[.cell 4 92,.tmp 5]) za4 zLt rfl rfl rfl (by simp) ?_
 obtain⟨fcs,hfcs⟩:∃l,l=f.cs:=⟨_,rfl⟩
 have hf5:fcs.length=5:=by rw[hfcs];cases f;rfl
 have hft:fcs.take 5=fcs:=List.take_of_length_le (by omega)
 have z1:¬nx=nx+1:=by omega
 have z2:¬nx+1=nx+2:=by omega
 have z3:¬nx=nx+2:=by omega
 have z4:¬nx+1=nx+1+1:=by omega
 have z5:¬nx=nx+1+1:=by omega
 have hVal:=zq1 u d hl hs
 obtain⟨res,hres⟩:∃r,r=zme c d f:=⟨_,rfl⟩
 rw[← hres]at hR
 unfold zme at hres
 have hNo:∀(k:Int) (g:Tr ABlk) (ny:Nat),Ext nx h g→res=zhg k→R (.tup [.agg [.sl0],.int .i64 k]) g ny:=fun k g ny hE e=>by
  rw[e]at hR
  exact hR _ _ _ (.tup [.agg [.sl0],.int .i64 k]) hE (.tup _ _ (.cons _ _ _ _ (.agg _ _ (.cons _ _ _ _ .sl0 .nil)) (.cons _ _ _ _ (.int _ _) .nil))) (.tup _ _ (.cons _ _ _ _ (.agg _ _ (.cons _ _ _ _ (.sl0 4 false) .nil)) (.cons _ _ _ _ (.same _) .nil)))
 rw[← hfcs]at hC ⊢
 simp-implicitDefEqProofs[go_sem,hf5,hft,za3,z1,z2,z3,z4,z5]
 refine Ret.use hVal ?_
 cases hvb:zc5 d with
 |false=>
  rw[hvb,if_pos (.inl rfl)]at hres
  simp-implicitDefEqProofs[go_sem,za0,za3]
  refine hNo 1 _ _ ?_ hres
  simp(disch:=omega)only[za6]
  exact Ext.refl _ _
 |true=>
  rw[hvb]at hres
  simp-implicitDefEqProofs[go_sem,za0,hf5,hft,za3,z1,z2,z3,z4,z5]
  refine Ret.use hC ?_
  by_cases hc:c=0
  ·subst hc
   obtain⟨fG,fs,fd,fv⟩:=hOk hvb rfl
   rw[if_neg (by simp)]at hres
   simp-implicitDefEqProofs[go_sem,za0,hf5,hft,za3,z1,z2,z3,z4,z5]
   generalize hg0:Tr.put _ (nx+1+1+1) (some (ABlk.map [] 0))=g0
   rw[hfcs]
   have E0:Ext nx h g0:=by rw[← hg0];simp(disch:=omega)only[za6];exact Ext.refl _ _
   have a1:g0.get nx=some (bx 24 fcs false 0):=by rw[← hg0];simp(disch:=omega) [go_sem,NEx]
   have a2:g0.get (nx+1)=some (bx 35 [.fz 4 u (za8 d)] false 0):=by rw[← hg0];simp(disch:=omega) [go_sem,NEx]
   have a3:g0.get (nx+1+1)=some (bx 92 [.sl0] false 0):=by rw[← hg0];simp(disch:=omega) [go_sem,NEx]
   have a4:g0.get (nx+1+1+1)=some (zck []):=by rw[← hg0];simp(disch:=omega) [go_sem,NEx,zck,zc0]
   clear hg0
   refine zMj f.size f [] g0 _ (nx+1+1+1) _ (Nat.le_refl _) hf (by omega) a4 fun g ny c1 c2 c3=>?_
   have E1:Ext nx h g:=fun k hk=>by rw[c1 k (by omega) (by omega)];exact E0 k hk
   have b1:g.get nx=some (bx 24 fcs false 0):=by rw[c1 _ (by omega) (by omega)];exact a1
   have b2:g.get (nx+1)=some (bx 35 [.fz 4 u (za8 d)] false 0):=by rw[c1 _ (by omega) (by omega)];exact a2
   have b3:g.get (nx+1+1)=some (bx 92 [.sl0] false 0):=by rw[c1 _ (by omega) (by omega)];exact a3
   clear a1 a2 a3 a4 c1 E0
   have hml:∀(U:List ByteArray) (n:Nat),(zc0 U n).length=U.length:=by
    intro U
    induction U with
    |nil=>intro n;rfl
    |cons x U ih=>intro n;simp[zc0,ih]
   by_cases h24:24<(zct [] f).length
   ·rw[if_pos h24]at hres
    have h24I:(24:Int)<((zct [] f).length:Int):=by omega
    simp-implicitDefEqProofs[go_sem,za0,c2,zck,hml,h24,h24I,za3,b3]
    refine hNo 2 _ _ ?_ hres
    simp(disch:=omega)only[za6]
    exact E1
   ·rw[if_neg h24]at hres
    have h24I:¬(24:Int)<((zct [] f).length:Int):=by omega
    simp-implicitDefEqProofs[go_sem,za0,c2,zck,hml,h24,h24I,za3,b3]
    generalize hg3:Tr.put _ _ (some (bx 169 [.func 138 [] _] false 0))=g3
    have E3:Ext nx h g3:=by
     rw[← hg3]
     simp(disch:=omega)only[za6]
     exact E1
    have d1:g3.get nx=some (bx 24 fcs false 0):=by rw[← hg3];simp(disch:=omega) [go_sem,NEx,b1]
    have d3:g3.get (nx+1+1)=some (bx 92 [.sl0] false 0):=by rw[← hg3];simp(disch:=omega) [go_sem,NEx,b3]
    have G3:GSt (fun k=>k=ny) (nx+1) ny u d ⟨[],[],false⟩ g3 (ny+6):=by
     refine⟨by omega,by omega,fun k hk=>.inl hk,?_,?_,?_,?_,?_,?_,⟨by simp,.sl0,.map0,?_,?_⟩⟩
     ·rw[← hg3];simp(disch:=omega) [go_sem,NEx,b2]
     ·rw[← hg3];simp(disch:=omega) [go_sem,NEx]
     ·rw[← hg3];simp(disch:=omega) [go_sem,NEx,dmE]
     ·rw[← hg3];simp(disch:=omega) [go_sem,NEx]
     ·rw[← hg3];simp(disch:=omega) [go_sem,NEx]
     ·rw[← hg3];simp(disch:=omega) [go_sem,NEx]
     ·rw[← hg3];simp(disch:=omega) [go_sem,NEx]
     ·exact⟨rfl,rfl,by omega,.inl ⟨rfl,rfl,rfl⟩⟩
    clear hg3 b1 b2 b3 c2
    have gg:g3.get (ny+2+1+1+1)=some (bx 169 [.func 138 [] [.ptr (ny+1) 0,.ptr (ny+2+1+1) 0,.ptr (nx+1) 0,.ptr (ny+2+1) 0,.ptr (ny+2+1+1+1) 0]] false 0):=G3.gg
    have hgv:=zD5 f.size f .empty 0 (Nat.le_refl _) (by omega) fG.notOk
    rw[← hfcs]at hgv
    obtain⟨gG,gS⟩:=zmq .empty 0 fG
    have GI0:GI ⟨[],[],false⟩:=⟨by simp,by intro n hn;simp at hn,by simp,by simp,by simp⟩
    have hgok:=zp7 d fd fv d.length (zb6 .empty 0 f) ⟨[],[],false⟩ (Nat.le_refl _) gG (by omega) GI0 (by simp[inn])
    have hgc:=zOt d fd fv u (nx+1) ny d.length 0 (zb6 .empty 0 f) ⟨[],[],false⟩ (fun k=>k=ny) g3 (ny+6)
    refine znm mixed za4 zbe 3 [] [2] [] [] 0 (by kernel_rfl) (by kernel_rfl) ?_
    simp-implicitDefEqProofs[go_sem,d1,gg,hf5,hft,za3]
    refine zbm hgv ?_
    simp-implicitDefEqProofs[go_sem,zas]
    refine hgc _ (by omega) gG (by omega) GI0 (by simp[inn]) G3 ?_
    intro O2 g2 n2 K2' G2'
    have K2:=K2'.low
    have G2:=G2'.low
    clear K2' G2' hgc
    have hGV:zb5 d d.length (zb6 .empty 0 f) ⟨[],[],false⟩=zeg d f:=rfl
    rw[hGV]at hgok G2 ⊢
    generalize zeg d f=GV at hgok G2 hres ⊢
    obtain⟨w,S2⟩:=GV
    obtain⟨q1,q2,q3,q4⟩:=hgok
    simp only at q1 q2 q3 q4 G2 hres ⊢
    have e3:g2.get (nx+1+1)=some (bx 92 [.sl0] false 0):=by
     rw[K2.2.1 _ (by omega) (by omega) (by omega) (by omega)];exact d3
    have E4:Ext nx h g2:=fun k hk=>by
     rw[K2.2.1 k (by omega) (by omega) (by omega) (by omega)];exact E3 k hk
    have hny:=K2.1
    have gm:g2.get (ny+1)=some (bx 182 [.ptr ny 0] false 0):=G2.gm
    have gf:g2.get (ny+2+1+1)=some (bx 4 [.bool S2.full] false 0):=G2.gf
    have hSL:=q1.len
    cases hfull:S2.full with
    |true=>
     rw[hfull]at gf
     rw[if_pos (.inl hfull)]at hres
     simp-implicitDefEqProofs[go_sem,za0,gf,e3,za3]
     refine hNo 2 _ _ ?_ hres
     simp(disch:=omega)only[za6]
     exact E4
    |false=>
     rw[hfull]at gf
     simp-implicitDefEqProofs[go_sem,za0,gf,gm,e3,za3]
     refine za7.useE (zta _ S2.L ny n2 g2 w G2.mkS (fun k hk=>hk.2) q1.wk (fun n hn=>by have:=(q1.ni n hn).2.2.2.2;omega) (by have hi0:inn ([]:List Nd)=0:=rfl;rw[hi0]at q4;omega) q2) ?_
     by_cases hbig:20000<(zc8 S2.L w).length
     ·rw[if_pos (.inr hbig)]at hres
      rw[if_pos hbig]
      simp-implicitDefEqProofs[go_sem,za0,e3,za3]
      rw[hres]at hR
      refine hR _ _ _ _ ?_ (Fz.same _ (by simp[plain,zah])) (.same _)
      simp(disch:=omega)only[za6]
      exact E4
     ·rw[if_neg (by rw[hfull];simpa using hbig)]at hres
      rw[if_neg hbig]
      simp-implicitDefEqProofs[go_sem,za0,e3,za3]
      rw[hres]at hR
      refine hR _ _ _ _ ?_ (Fz.same _ (by simp[plain,zah,zlq])) (.same _)
      simp(disch:=omega)only[za6]
      exact E4
  ·rw[if_pos (.inr hc)]at hres
   simp-implicitDefEqProofs[go_sem,za0,hc,za3,z1,z2,z3,z4,z5]
   refine hNo 1 _ _ ?_ hres
   simp(disch:=omega)only[za6]
   exact Ext.refl _ _
theorem zTw:cx.ft.get 208=some Tryz.f208:=za9 (by decide) (by kernel_rfl)
def zi3 (g:List Nd)(d:List Fc):Prop:=zc5 d=true∧0<g.length∧g.length≤20000∧(∀n∈g,zek g n d)∧(g.map zb3).Nodup∧zdh g 0=g
def zbk (g:List Nd)(d:List Fc):Bool:=@decide (zi3 g d) (Classical.propDecidable _)
theorem zuj {g d}(h:zi3 g d):zbk g d=true:=by unfold zbk;exact @decide_eq_true _ (Classical.propDecidable _) h
theorem zCz {g d}(h:¬zi3 g d):zbk g d=false:=by unfold zbk;exact @decide_eq_false _ (Classical.propDecidable _) h
theorem zxz {g:List Nd}{d:List Fc}(h:∀n∈g,zek g n d):WK g:=by
 intro n hn x hx
 rcases h n hn with⟨e,_⟩ |⟨_,_,_,_,_,_,_,h2⟩
 ·rw[e]at hx;cases hx
 ·obtain⟨k,hk,e⟩:=List.getElem_of_mem hx
  have:=h2 k hk
  rw[e]at this
  unfold zgf at this
  have h1:¬x<0:=fun q=>this (.inl q)
  have h2:¬(g.length:Int)≤x:=fun q=>this (.inr (.inl q))
  omega
theorem zN9 {g:List Nd}(hw:WK g)(h0:0<g.length):(zc8 g 0).length≤g.length:=
 (zkr hw _ [] 0 ⟨List.nodup_nil,by simp⟩ ⟨Int.le_refl _,by omega⟩).1.len
theorem zy9 {g:List Nd}{d:List Fc}:(g.any fun n=>!zio g n d)=false↔∀n∈g,zek g n d:=by
 constructor
 ·intro h n hn
  have:=List.any_eq_false.1 h n hn
  by_cases hp:zek g n d
  ·exact hp
  ·rw[zF9 hp]at this
   simp at this
 ·intro h
  refine List.any_eq_false.2 fun n hn=>?_
  rw[zAf (h n hn)]
  simp
set_option maxHeartbeats 4000000 in
theorem zqm (u v:Bool)(g:List Nd)(d:List Fc)(hg:g.length≤1000000)(hd:d.length≤1000000)(hs:∀f∈d,f.name.size≤1000000000)(hN:∀n∈g,NdI n):Ret Tryz.prog cx 208 [.agg [.fz 4 u (zal g)],.agg [.fz 4 v (za8 d)]] (.bool (zbk g d)):=by
 refine Ret.mk fun h nx R hR=>za7.ofLe fun hG=>zaa (sz:=57) (rs:=[.tmp 4]) za4 zTw rfl rfl rfl (by simp) ?_
 have hRt:∀g' ny,Ext nx h g'→zi3 g d→R (.bool true) g' ny:=fun g' ny e hp=>hR _ _ _ e (Fz.eq rfl (by rw[zuj hp]))
 have hRf:∀g' ny,Ext nx h g'→¬zi3 g d→R (.bool false) g' ny:=fun g' ny e hp=>hR _ _ _ e (Fz.eq rfl (by rw[zCz hp]))
 clear hR
 have hVal:=zq1 v d (by omega) hs
 have z1:¬nx=nx+1:=by omega
 have z2:¬nx=nx+1+1:=by omega
 have hgl:(zal g).length=g.length:=by simp[zal]
 cases hvb:zc5 d with
 |false=>
  simp-implicitDefEqProofs[go_sem,z1]
  refine Ret.use hVal ?_
  simp-implicitDefEqProofs[go_sem,za0,hvb]
  refine hRf _ _ ?_ (fun q=>by rw[q.1]at hvb;cases hvb)
  simp(disch:=omega)only[za6]
  exact Ext.refl _ _
 |true=>
  by_cases h0:g.length=0
  ·simp-implicitDefEqProofs[go_sem,z1]
   refine Ret.use hVal ?_
   simp-implicitDefEqProofs[go_sem,za0,hvb,z1,hgl,h0]
   refine hRf _ _ ?_ (fun q=>by have:=q.2.1;omega)
   simp(disch:=omega)only[za6]
   exact Ext.refl _ _
  by_cases h2:20000<g.length
  ·have h2I:(20000:Int)<(g.length:Int):=by omega
   have h0I:¬(g.length:Int)=0:=by omega
   simp-implicitDefEqProofs[go_sem,z1]
   refine Ret.use hVal ?_
   simp-implicitDefEqProofs[go_sem,za0,hvb,z1,hgl,h0,h2,h0I,h2I]
   refine hRf _ _ ?_ (fun q=>by have:=q.2.2.1;omega)
   simp(disch:=omega)only[za6]
   exact Ext.refl _ _
  have h2I:¬(20000:Int)<(g.length:Int):=by omega
  have h0I:¬(g.length:Int)=0:=by omega
  have hAny:=zHq u g 257 [.ip [.fz 4 u (zal g)],.ip [.fz 4 v (za8 d)]] (fun n=>!zio g n d) (by omega) (fun n hn=>by
   obtain⟨_,_,_,n4,n5⟩:=hN n hn
   exact zJ6 u v g n d (by omega) (by omega) (by omega) (by omega))
  simp-implicitDefEqProofs[go_sem,z1]
  refine Ret.use hVal ?_
  simp-implicitDefEqProofs[go_sem,za0,hvb,z1,hgl,h0,h2,h0I,h2I]
  generalize hh0:(h.put nx (some (bx 92 [.fz 4 u (zal g)] false 0))).put (nx+1) (some (bx 35 [.fz 4 v (za8 d)] false 0))=h0
  have E0:Ext nx h h0:=by rw[← hh0];simp(disch:=omega)only[za6];exact Ext.refl _ _
  have gb:h0.get nx=some (bx 92 [.fz 4 u (zal g)] false 0):=by rw[← hh0];simp[go_sem,z1]
  have ge:h0.get (nx+1)=some (bx 35 [.fz 4 v (za8 d)] false 0):=by rw[← hh0];simp[go_sem]
  clear hh0
  refine Ret.useB zgh hAny rfl (.cons _ _ _ _ (Fz.same _ (by simp[plain,zlq])) (.cons _ _ _ _ (.func 257 _ _ _ _ .nil (.cons _ _ _ _ (zi7 (t:=92) (opn:=false) (esz:=0) (by omega) gb (by simp[plain,zah,zlq])) (.cons _ _ _ _ (zi7 (t:=35) (opn:=false) (esz:=0) (by omega) ge (by simp[plain,zah,zji])) .nil))) .nil)) ?_
  cases hany:(g.any fun n=>!zio g n d) with
  |true=>
   simp-implicitDefEqProofs[go_sem,za0]
   exact hRf _ _ E0 (fun q=>by rw[zy9.2 q.2.2.2.1]at hany;cases hany)
  |false=>
   have hpr:=zy9.1 hany
   have hw:=zxz hpr
   have hol:=zN9 hw (by omega)
   have z3:¬nx=nx+2:=by omega
   simp-implicitDefEqProofs[go_sem,za0,gb,z2,z3]
   refine zap (fun mm st=>∃tm h' nx' j O',st=.mk tm h' nx' []∧mm=g.length-j∧j≤g.length∧tm.get 2=some (.ptr nx 0)∧tm.get 6=some (.ptr (nx+2) 0)∧tm.get 36=some (.fz 4 u (zal g))∧tm.get 37=some (.int .i64 (g.length:Int))∧tm.get 38=some (.int .i64 (j:Int))∧h'.get nx=some (bx 92 [.fz 4 u (zal g)] false 0)∧zcx O' h' nx' (nx+2) (g.take j)∧(∀k,O' k→nx+2≤k)∧nx+3≤nx'∧Ext nx h h') ⟨g.length,_,_,_,0,fun k=>k=nx+2,rfl,by simp,by simp,?_⟩ ?_
   ·simp-implicitDefEqProofs[go_sem]
    refine⟨by rw[if_neg z2];exact gb,⟨by simp,.sl0,.map0,by simp[go_sem],rfl,rfl,by omega,.inl ⟨rfl,rfl,rfl⟩⟩,?_⟩
    simp(disch:=omega)only[za6]
    exact E0
   ·rintro mm st ⟨tm,h',nx',j,O',rfl,rfl,hj,t2,t6,t36,t37,t38,gb',hM,hO,hn',he⟩ J hJ
    refine zag za4 _ ?_
    by_cases hlt:j<g.length
    ·obtain⟨n,hn⟩:∃n,n=g[j]:=⟨_,rfl⟩
     simp-implicitDefEqProofs[go_sem,t2,t6,t36,t37,t38,gb',hgl,hlt,← hn,za3]
     have hnm:n∈g:=by rw[hn];exact List.getElem_mem hlt
     have hE1:∀(x y:Option ABlk),Ext nx' h' ((h'.put nx' x).put nx' y):=fun x y=>by
      simp(disch:=omega)only[za6]
      exact Ext.refl _ _
     have hlj:(g.take j).length=j:=by simp;omega
     refine znj O' _ (nx'+1) (nx+2) (g.take j) n (hM.ext (hE1 _ _) (Nat.le_succ _)) (hN n hnm) (by omega) _ fun O2 g2 n2 K M=>?_
     obtain⟨k1,k2,k3⟩:=K
     have E2:Ext nx h g2:=fun k hk=>by
      rw[k2 k (by omega) (fun q=>by have:=hO k q;omega),hE1 _ _ k (by omega)]
      exact he k hk
     have gb2:g2.get nx=some (bx 92 [.fz 4 u (zal g)] false 0):=by
      rw[k2 nx (by omega) (fun q=>by have:=hO nx q;omega),hE1 _ _ nx (by omega)]
      exact gb'
     have htk:g.take (j+1)=g.take j++[n]:=by rw[hn];exact(List.take_append_getElem hlt).symm
     by_cases hin:zb3 n∈(g.take j).map zb3
     ·have hix:=zEp hin
      have hne:¬zeq (g.take j) n=j:=by omega
      have hneI:¬(zeq (g.take j) n:Int)=(j:Int):=by omega
      simp-implicitDefEqProofs[go_sem,za0,t2,t6,t36,t37,t38,hneI,hne]
      refine hRf _ _ E2 fun q=>?_
      have hnd:=q.2.2.2.2.1
      have hsp:g.map zb3=(g.take j).map zb3++(g.drop j).map zb3:=by rw[← List.map_append,List.take_append_drop]
      rw[hsp]at hnd
      refine(List.nodup_append.1 hnd).2.2 _ hin (zb3 n) ?_ rfl
      rw[List.drop_eq_getElem_cons hlt,← hn]
      exact List.mem_cons_self
     ·have hix:=zwf hin
      rw[hlj]at hix
      have hadd:zeh (g.take j) n=g.take (j+1):=by rw[htk];unfold zeh;rw[if_neg hin]
      rw[hadd]at M
      simp-implicitDefEqProofs[go_sem,za0,t2,t6,t36,t37,t38,hix]
      refine hJ (g.length-(j+1)) _ (by omega) ⟨_,_,_,j+1,O2,rfl,rfl,by omega,?_⟩
      simp(disch:=omega) [go_sem,t2,t6,t36,t37,t38,zab]
      exact⟨gb2,M,fun k hk=>by
       rcases k3 k hk with q |q
       ·exact hO k q
       ·omega,by omega,E2⟩
    ·have hjj:j=g.length:=by omega
     subst hjj
     rw[List.take_length]at hM
     simp-implicitDefEqProofs[go_sem,t2,t6,t36,t37,t38,gb',hgl,hlt]
     have hkl:∀n∈g,n.kids.length≤1000000:=fun n hn=>by have:=(hN n hn).2.2.2.2;omega
     have hnd:=hM.1
     refine za7.useE (zta _ g (nx+2) nx' h' 0 hM.low (fun k hk=>hk.2) hw hkl (by omega) ⟨by omega,by omega⟩) ?_
     rw[if_neg (by omega)]
     have hfl:(zdh g 0).length=(zc8 g 0).length:=by simp[zdh]
     have hsm:=zPk false u (zdh g 0) g (by omega) (fun a ha=>by
      obtain⟨i,_,rfl⟩:=List.mem_map.1 ha
      have:∀x:Nat,(g.getD x ⟨0,[],[],false⟩).cuts.length≤1000000∧(g.getD x ⟨0,[],[],false⟩).kids.length≤1000000:=fun x=>by
       rw[List.getD_eq_getElem?_getD]
       by_cases hx:x<g.length
       ·rw[List.getElem?_eq_getElem hx]
        obtain⟨_,_,_,n4,n5⟩:=hN _ (List.getElem_mem hx)
        simp only[Option.getD_some]
        omega
       ·rw[List.getElem?_eq_none (by omega)]
        simp
      have:=this i.toNat
      show (g.getD i.toNat ⟨0,[],[],false⟩).cuts.length≤1000000000∧((g.getD i.toNat ⟨0,[],[],false⟩).kids.map (zcq (zc8 g 0))).length≤1000000000
      rw[List.length_map]
      omega)
     have z4:¬nx=nx':=by omega
     simp-implicitDefEqProofs[go_sem,za0,t2,t6,t36,t37,t38,gb',z4,za3]
     refine Ret.use hsm ?_
     simp-implicitDefEqProofs[go_sem,za0]
     have hE9:∀(x y:Option ABlk),Ext nx h ((h'.put nx' x).put nx' y):=fun x y=>by
      simp(disch:=omega)only[za6]
      exact he
     cases hsn:zeb (zdh g 0) g with
     |true=>exact hRt _ _ (hE9 _ _) ⟨hvb,by omega,by omega,hpr,hnd,zwz.1 hsn⟩
     |false=>exact hRf _ _ (hE9 _ _) fun q=>by rw[zwz.2 q.2.2.2.2.2]at hsn;cases hsn
theorem zzp {α:Type}{p:α→Bool}:∀{l:List α},(∃x∈l,p x=true)→∃j:Nat,zb8 p l=(j:Int)∧∃h:j<l.length,p l[j]=true
 |[],⟨x,hx,_⟩=>by cases hx
 |y::l,⟨x,hx,hp⟩=>by
  unfold zb8
  by_cases hy:p y=true
  ·exact⟨0,by rw[if_pos hy];rfl,by simp,hy⟩
  ·have hxl:x∈l:=by
    rcases List.mem_cons.1 hx with e |e
    ·subst e;exact absurd hp hy
    ·exact e
   obtain⟨j,h1,h2,h3⟩:=zzp (l:=l) ⟨x,hxl,hp⟩
   refine⟨j+1,?_,by simp;omega,by simpa using h3⟩
   rw[if_neg hy,if_neg (by omega),h1]
   omega
theorem zF0 {α β:Type}{f:α→β}:∀{l:List α},(l.map f).Nodup→∀{i j:Nat}(hi:i<l.length)(hj:j<l.length),l[i]=l[j]→i=j
 |[],_,i,j,hi,_,_=>by simp at hi
 |x::l,h,i,j,hi,hj,e=>by
  rw[List.map_cons,List.nodup_cons]at h
  rcases i with _ |i <;> rcases j with _ |j
  ·rfl
  ·exfalso
   simp only[List.getElem_cons_zero,List.getElem_cons_succ]at e
   exact h.1 (List.mem_map.2 ⟨l[j]'(by simpa using hj),List.getElem_mem _,by rw[← e]⟩)
  ·exfalso
   simp only[List.getElem_cons_zero,List.getElem_cons_succ]at e
   exact h.1 (List.mem_map.2 ⟨l[i]'(by simpa using hi),List.getElem_mem _,by rw[e]⟩)
  ·simp only[List.getElem_cons_succ]at e
   rw[zF0 h.2 (by simpa using hi) (by simpa using hj) e]
theorem zEq {g:List Nd}{d:List Fc}{x:Int}(hp:∀n∈g,zek g n d)(h1:0≤x)(h2:x<(g.length:Int))(hb:zfv g x=false):∃h:x.toNat<g.length,g[x.toNat]=⟨0,[],[],false⟩:=by
 have hl:x.toNat<g.length:=by omega
 refine⟨hl,?_⟩
 unfold zfv at hb
 rw[List.getElem?_eq_getElem hl]at hb
 simp only at hb
 have hm:=hp _ (List.getElem_mem hl)
 generalize g[x.toNat]=m at hb hm
 obtain⟨f,c,k,lf⟩:=m
 unfold zmp at hb
 rw[Bool.or_eq_false_iff]at hb
 obtain⟨b1,b2⟩:=hb
 have hk:k=[]:=by simpa using b1
 subst hk
 simp only at b2
 subst b2
 rcases hm with⟨_,e1,e2⟩ |⟨e,_⟩
 ·simp only at e1 e2
  subst e1;subst e2;rfl
 ·exact absurd rfl e
theorem zSq {g:List Nd}{d:List Fc}(hV:zi3 g d)(hN:∀n∈g,NdI n):zxl g d:=by
 obtain⟨v1,v2,v3,v4,v5,v6⟩:=hV
 refine⟨v2,v1,fun a n ha hk=>?_⟩
 have hn:n∈g:=List.mem_of_getElem? ha
 have hNn:=hN n hn
 have hw:=zxz v4
 rcases v4 n hn with⟨e,_⟩ |⟨_,p2,p3,p4,p5,p6,_,p8⟩
 ·exact absurd e hk
 have hkr:∀(k:Nat) (hk:k<n.kids.length),0≤n.kids[k]∧n.kids[k]<(g.length:Int):=fun k hk=>hw n hn _ (List.getElem_mem hk)
 refine⟨n.fact.toNat,by omega,p6,p5,by have:=hNn.2.2.2.1;omega,fun x hx=>⟨x.toNat,by have:=hw n hn x hx;omega,by have:=hw n hn x hx;omega⟩,?_⟩
 have hc:1≤n.cuts.length:=by
  rcases Nat.eq_zero_or_pos n.cuts.length with q |q
  ·exact absurd (List.eq_nil_of_length_eq_zero q) p4
  ·exact q
 have k0:0<n.kids.length:=by omega
 have k1:1<n.kids.length:=by omega
 have hgood:∃x∈n.kids,zfv g x=true:=by
  by_cases g0:zfv g n.kids[0]=true
  ·exact⟨_,List.getElem_mem k0,g0⟩
  by_cases g1:zfv g n.kids[1]=true
  ·exact⟨_,List.getElem_mem k1,g1⟩
  exfalso
  obtain⟨l0,e0⟩:=zEq v4 (hkr 0 k0).1 (hkr 0 k0).2 (by simpa using g0)
  obtain⟨l1,e1⟩:=zEq v4 (hkr 1 k1).1 (hkr 1 k1).2 (by simpa using g1)
  have:=zF0 v5 l0 l1 (by rw[e0,e1])
  have r0:=hkr 0 k0
  have r1:=hkr 1 k1
  refine p8 1 k1 (.inr (.inr (.inl ⟨by omega,?_⟩)))
  rw[List.getD_eq_getElem?_getD,List.getElem?_eq_getElem (by omega)]
  show n.kids[0]=n.kids[1]
  omega
 obtain⟨j,j1,j2,j3⟩:=zzp hgood
 have hr:=hkr j j2
 have hxl:(n.kids[j]).toNat<g.length:=by omega
 refine⟨j,(n.kids[j]).toNat,g[(n.kids[j]).toNat],j1,j2,?_,List.getElem?_eq_getElem hxl,fun hmk=>?_⟩
 ·rw[List.getElem?_eq_getElem j2]
  congr 1
  omega
 ·have hnb:=p8 j j2
  unfold zgf at hnb
  have:¬(g[(n.kids[j]).toNat]).fact≤n.fact:=fun q=>hnb (.inr (.inr (.inr ⟨hxl,hmk,q⟩)))
  omega
theorem zSo (u v:Bool)(g:List Nd)(d:List Fc)(hg:g.length≤1000000)(hd:d.length≤1000000)(hs:∀f∈d,f.name.size≤1000000000)(hN:∀n∈g,NdI n)(hV:zi3 g d)(h:Tr ABlk) (nx:Nat)(R:AV→Tr ABlk→Nat→Prop)
  (hR:∀c g' ny,Ext nx h g'→nx≤ny→zn5 nx ny g' (some c) (ze2 g (d.length+1) 0 (ze1 d)).2→(∃m,g[(ze2 g (d.length+1) 0 (ze1 d)).1]?=some m∧m.leaf=true)→R (.tup [c,.bool true]) g' ny)
  (hR2:∀g' ny,Ext nx h g'→nx≤ny→(∃m,g[(ze2 g (d.length+1) 0 (ze1 d)).1]?=some m∧m.leaf=false)→R (.tup [.sl0,.bool false]) g' ny):za7 Tryz.prog cx 150 [.agg [.fz 4 u (zal g)],.agg [.fz 4 v (za8 d)]] h nx R:=by
 have hVc:=zqm u v g d hg hd hs hN
 rw[zuj hV]at hVc
 exact zJh u v g d hg hd hs hVc (zSq hV hN) h nx R hR hR2
end
end Go.Ev
