/- Texts T73 T75 T60. -/
import Derived.Test.YtkdnmldmffkkoaaGreatDoorP24
import Derived.Test.YtkdnmldmffkkoaaGreatDoorP25
set_option linter.unusedSimpArgs false
set_option linter.unusedVariables false
set_option maxRecDepth 100000
namespace Go.Ev
open Go.Proofs Go.RowKit
noncomputable section
attribute [-go_sem] zaf zac zay zbj
theorem zR9 {P:Program}{c:Cx}{inr:Bool}{sz:Nat}{code:Code}{Q:AX→AS→Prop}{s1 s2:AS}(S:AS→Prop)(h1:S s1)(h2:S s2)(h:∀s,S s→AW P c inr sz code Q s):AW P c inr sz code Q s1∧AW P c inr sz code Q s2:=⟨h _ h1,h _ h2⟩
theorem zya (l m:List Int):za5 l++za5 m=za5 (l++m):=by simp[za5]
def LsI (lo no:Nat)(h:Tr ABlk) (n:Nat)(v:AV)(cs:List Int):Prop:=∃q cp o o2 e2,lo≤q∧q<n∧q≠no∧v=.sl q 0 cs.length cp o∧h.get q=some (bx 3 (za5 cs) o2 e2)∧((cp=cs.length∧o=false)∨(cp=0∧o=true∧o2=true∧e2=1))
set_option maxHeartbeats 8000000 in
theorem zG7 (a b:List Nd)(d:List Fc)(hd:d.length≤1000)(hv:∀x∈d,x.lo≤x.hi∧I64 x.lo∧I64 x.hi)(ha:DgOk a d)(hb:DgOk b d)(u v w:Bool) (e bb:Nat):∀(k x y:Nat)(H:HS)(O:Nat→Prop)(h:Tr ABlk) (nx:Nat)(R:AV→Tr ABlk→Nat→Prop)(hx:x<a.length)(hy:y<b.length),(d.length:Int)+1≤k+zel a[x] b[y] d→k≤d.length+1→HI H→inn H.L≤20000+d.length+1→
  HSt O e bb u v w a b d H h nx→zuo a b d e bb k x y u v w H O h nx R→za7 Tryz.prog cx 209 (zvc x y e bb) h nx R:=by
 intro k
 induction k with
 |zero=>
  intro x y H O h nx R hx hy hk
  have:=(zly ha hb (List.getElem_mem hx) (List.getElem_mem hy)).2.1
  omega
 |succ k ih=>
  intro x y H O h nx R hx hy hk hk2 hH hin hS0 hR0
  have hS:=hS0.low
  have hR:zuo a b d e bb (k+1) x y u v w H (fun k=>O k∧k<nx) h nx R:=fun O' g ny K G=>hR0 O' g ny K.up G
  obtain⟨O1,hO1⟩:∃O1:Nat→Prop,O1=fun k=>O k∧k<nx:=⟨_,rfl⟩
  have hOl:∀k,O1 k→k<nx:=by rw[hO1];exact fun k q=>q.2
  rw[← hO1]at hS hR
  clear hO1
  clear hS0 hR0
  unfold zuo at hR
  rw[zcu]at hR
  have hlb:=hS.lb
  have hle:=hS.le
  have gm:=hS.gm
  have gM:=hS.gM
  have gv:=hS.gv
  have gx:=hS.gx
  have gy:=hS.gy
  have gd:=hS.gd
  have hHl:H.L.length≤inn H.L+2:=hH.g.len
  refine zaa (sz:=135) (rs:=[.tmp 10]) za4 zSz rfl rfl rfl (by simp[zvc]) ?_
  unfold zvc
  cases hg:zec ((x:Int),(y:Int)) H.M with
  |some val=>
   obtain⟨j,f1,f2,f3⟩:=zqn 0 hg
   simp-implicitDefEqProofs[go_sem,gv,gM,f1,zac,za3]
   rw[hg]at hR
   exact hR O1 _ nx (KH.ofExt (Ext.refl _ _) (Nat.le_refl _)) hS
  |none=>
   have f1:=zp1 0 hg
   simp-implicitDefEqProofs[go_sem,gv,gM,f1,zac,za3]
   rw[hg]at hR
   simp only[zq5 hx,zq5 hy]at hR
   obtain⟨i1,i2,i3,i4⟩:=zly ha hb (List.getElem_mem hx) (List.getElem_mem hy)
   obtain⟨p,hp⟩:∃p,p=a[x]:=⟨_,rfl⟩
   obtain⟨q,hq⟩:∃q,q=b[y]:=⟨_,rfl⟩
   rw[← hp,← hq]at hR i1 i2 i3 i4 hk
   refine zD1 mixed za4 zbe 10 [10,11,12,13] [] [(1,10),(1,11),(4,10),(4,11),(6,10),(6,11),(6,12),(9,10),(9,11),(9,12)] (by kernel_rfl) (by kernel_rfl) (by kernel_rfl) ?_
   have n1:¬e=nx:=by omega
   have n2:¬e=nx+1:=by omega
   have n3:¬e+1=nx:=by omega
   have n4:¬e+1=nx+1:=by omega
   simp-implicitDefEqProofs[go_sem,gx,gy,hx,hy,← hp,← hq,n1,n2,n3,n4]
   refine zR9 (fun s=>∃tm M p1 p2,s=.mk tm M (nx+2) []∧nx≤p1∧p1<nx+2∧nx≤p2∧p2<nx+2∧p1≠p2∧Ext nx h M∧M.get p1=some (bx 154 p.cs false 0)∧M.get p2=some (bx 154 q.cs false 0)∧tm.get 0=some (.int .i64 (x:Int))∧tm.get 1=some (.int .i64 (y:Int))∧tm.get 2=some (.ptr (bb+3) 0)∧tm.get 3=some (.ptr e 0)∧tm.get 4=some (.ptr (e+1) 0)∧tm.get 5=some (.ptr (e+2) 0)∧tm.get 6=some (.ptr (bb+1) 0)∧tm.get 7=some (.ptr (bb+4) 0)∧tm.get 13=some (.ptr p1 0)∧tm.get 14=some (.ptr p2 0)) ⟨_,_,nx,nx+1,rfl,by omega,by omega,by omega,by omega,by omega,?_,?_⟩ ⟨_,_,nx+1,nx,rfl,by omega,by omega,by omega,by omega,by omega,?_,?_⟩ ?_
   ·simp(disch:=omega)only[za6]
    exact Ext.refl _ _
   ·simp-implicitDefEqProofs[go_sem]
   ·simp(disch:=omega)only[za6]
    exact Ext.refl _ _
   ·simp-implicitDefEqProofs[go_sem]
   ·rintro s ⟨tm,M,p1,p2,rfl,p1a,p1b,p2a,p2b,p12,hE,gp,gq,t0,t1,t2,t3,t4,t5,t6,t7,t13,t14⟩
    clear gm gM gv gx gy gd
    have hS:=hS.ext hE (show nx≤nx+2 by omega)
    have hKM:KH O1 bb h nx O1 M (nx+2):=KH.ofExt hE (by omega)
    have gm:=hS.gm
    have gx:=hS.gx
    have gy:=hS.gy
    have gd:=hS.gd
    obtain⟨ma,mc,gb,hA⟩:=hS.all
    refine zbq mixed za4 zbe [] [2,5] [] (by kernel_rfl) ?_
    simp-implicitDefEqProofs[go_sem,gp,gq,gd,t5,t13,t14]
    refine zbm (zte p w d) ?_
    simp-implicitDefEqProofs[go_sem,zas,gp,gq,gd,t5,t13,t14]
    refine zbm (zte q w d) ?_
    simp-implicitDefEqProofs[go_sem,zas,gp,gq,gd,t5,t13,t14]
    have hmin:min (zbs p d) (zbs q d)=zel p q d:=rfl
    rw[hmin]
    generalize hi:zel p q d=i at i1 i2 i3 i4 hR hk
    have hLA:∀(e:TypeId) (size b:Nat) (z:Option AV) (fs:List (Nat×Nat×Bool)) (g:Tr ABlk) (n:Nat),zdu (.mk (.slice e) size b z fs) ma g n=.val (.int .i64 (H.L.length:Int)) g n:=by
     intro e' size b' z fs g n
     rcases hA with⟨h0,ha⟩ |⟨q,ha⟩
     ·rw[ha,znk,h0];rfl
     ·rw[ha,zo8]
    clear hA
    have hlD:(za8 d).length=d.length:=by simp[za8]
    have pl3:p.cs[3]?=some (.bool p.leaf):=by cases p;rfl
    have ql3:q.cs[3]?=some (.bool q.leaf):=by cases q;rfl
    have pl3':∀hh,p.cs[3]'hh=.bool p.leaf:=by cases p;intro hh;rfl
    have ql3':∀hh,q.cs[3]'hh=.bool q.leaf:=by cases q;intro hh;rfl
    by_cases hc:i=(d.length:Int)∨20000<H.L.length
    ·rw[if_pos hc]at hR
     have hleaf:za7 Tryz.prog cx 139 [.ptr bb 0,.agg [.int .i64 0,.sl0,.sl0,.bool (p.leaf && q.leaf)]] M (nx+2) fun v g ny=>R v g ny:=by
      refine za7.wk (zvb bb (p.leaf && q.leaf)) ?_
      refine znj O1 _ _ bb H.L (zb9 (p.leaf && q.leaf)) hS.mkS (zvt _) (by omega) _ fun O' g' ny K Mk=>?_
      exact hR O' g' ny (hKM.trans (KH.ofKept K)) (hS.node K Mk)
     cases pl:p.leaf with
     |true=>
      rw[pl]at hleaf pl3 pl3'
      simp only[Bool.true_and]at hleaf
      by_cases hid:i=(d.length:Int)
      ·skip
       simp-implicitDefEqProofs[go_sem,t0,t1,t2,t3,t4,t5,t6,t7,t13,t14,gm,gd,gb,gp,gq,hlD,hid,pl3,ql3,pl3',ql3',za3]
       refine hleaf.mono fun v g ny hh=>?_
       simp-implicitDefEqProofs[go_sem,za0]
       exact hh
      ·skip
       have hbig:20000<H.L.length:=by omega
       have hbigI:(20000:Int)<(H.L.length:Int):=by omega
       simp-implicitDefEqProofs[go_sem,t0,t1,t2,t3,t4,t5,t6,t7,t13,t14,gm,gd,gb,gp,gq,hlD,hid,hLA,hbig,hbigI,pl3,ql3,pl3',ql3',za3]
       refine hleaf.mono fun v g ny hh=>?_
       simp-implicitDefEqProofs[go_sem,za0]
       exact hh
     |false=>
      rw[pl]at hleaf pl3 pl3'
      simp only[Bool.false_and]at hleaf
      by_cases hid:i=(d.length:Int)
      ·skip
       simp-implicitDefEqProofs[go_sem,t0,t1,t2,t3,t4,t5,t6,t7,t13,t14,gm,gd,gb,gp,gq,hlD,hid,pl3,ql3,pl3',ql3',za3]
       refine hleaf.mono fun v g ny hh=>?_
       simp-implicitDefEqProofs[go_sem,za0]
       exact hh
      ·skip
       have hbig:20000<H.L.length:=by omega
       have hbigI:(20000:Int)<(H.L.length:Int):=by omega
       simp-implicitDefEqProofs[go_sem,t0,t1,t2,t3,t4,t5,t6,t7,t13,t14,gm,gd,gb,gp,gq,hlD,hid,hLA,hbig,hbigI,pl3,ql3,pl3',ql3',za3]
       refine hleaf.mono fun v g ny hh=>?_
       simp-implicitDefEqProofs[go_sem,za0]
       exact hh
    ·rw[if_neg hc]at hR
     have hid:¬i=(d.length:Int):=fun q=>hc (.inl q)
     have hbig:¬20000<H.L.length:=fun q=>hc (.inr q)
     have hbigI:¬(20000:Int)<(H.L.length:Int):=by omega
     obtain⟨m,rfl⟩:∃m:Nat,i=(m:Int):=⟨i.toNat,by omega⟩
     have hmd:m<d.length:=by omega
     obtain⟨f,hf⟩:∃f,f=d[m]:=⟨_,rfl⟩
     have hfD:d.getD m ⟨.empty,0,0,0⟩=f:=by
      rw[hf,List.getD_eq_getElem?_getD,List.getElem?_eq_getElem hmd]
      rfl
     have hfcs:Fc.cs f=[.bs f.name,.int .i64 f.kind,.int .i64 f.lo,.int .i64 f.hi]:=by cases f;rfl
     simp only[Int.toNat_natCast,hfD]at hR
     have z1:¬p1=nx+2:=by omega
     have z2:¬p2=nx+2:=by omega
     simp-implicitDefEqProofs[go_sem,t0,t1,t2,t3,t4,t5,t6,t7,t13,t14,gm,gd,gb,gp,gq,hid,hlD,hLA,hbig,hbigI,hmd,← hf,hfcs,za3,z1,z2]
     generalize hPQ:p.cs++_=PQ
     have hPl:PQ.length=8:=by rw[← hPQ];cases p;cases q;rfl
     obtain⟨LW,hLW⟩:∃LW:Nat→List Int,LW=fun j=>if j=0 then [f.lo] else if j=1 then [f.lo]++(if zbs p d=(m:Int) then p.cuts else []) else ([f.lo]++(if zbs p d=(m:Int) then p.cuts else []))++(if zbs q d=(m:Int) then q.cuts else []):=⟨_,rfl⟩
     have z3:¬nx+2=nx+2+1:=by omega
     refine zap (fun mm st=>∃tm h' nx' j v cs,st=.mk tm h' nx' []∧mm=2-j∧j≤2∧tm.get 0=some (.int .i64 (x:Int))∧tm.get 1=some (.int .i64 (y:Int))∧tm.get 2=some (.ptr (bb+3) 0)∧tm.get 3=some (.ptr e 0)∧tm.get 4=some (.ptr (e+1) 0)∧tm.get 5=some (.ptr (e+2) 0)∧tm.get 6=some (.ptr (bb+1) 0)∧tm.get 7=some (.ptr (bb+4) 0)∧tm.get 15=some (.int .i64 (m:Int))∧tm.get 16=some v∧tm.get 82=some (.sl (nx+3) 0 2 2 false)∧tm.get 83=some (.int .i64 2)∧tm.get 84=some (.int .i64 (j:Int))∧
      h'.get (nx+3)=some (bx 154 PQ false 0)∧Ext (nx+2) M h'∧nx+4≤nx'∧LsI (nx+2) (nx+3) h' nx' v cs∧RowKit.Hid (cs=LW j)) ⟨2,_,_,_,0,.sl (nx+2) 0 1 1 false,[f.lo],rfl,rfl,by omega,?_⟩ ?_
     ·simp-implicitDefEqProofs[go_sem,t0,t1,t2,t3,t4,t5,t6,t7]
      refine⟨?_,⟨nx+2,1,false,false,0,by omega,by omega,by omega,rfl,?_,.inl ⟨rfl,rfl⟩⟩,Lib.hid (by rw[hLW];rfl)⟩
      ·simp(disch:=omega)only[za6]
       exact Ext.refl _ _
      ·simp-implicitDefEqProofs[go_sem]
       rfl
     ·rintro mm st ⟨tm,h',nx',j,v',cs,rfl,rfl,hj,t0,t1,t2,t3,t4,t5,t6,t7,t15,t16,t82,t83,t84,gPQ,hEM,hnx',hLs,hcs⟩ J hJ
      refine zag za4 _ ?_
      have gd':h'.get (e+2)=some (bx 35 [.fz 4 w (za8 d)] false 0):=by rw[hEM _ (by omega)];exact gd
      have y1:¬e+2=nx':=by omega
      have y2:¬nx+3=nx':=by omega
      by_cases hj2:j<2
      ·obtain⟨n,hn⟩:∃n,n=if j=0 then p else q:=⟨_,rfl⟩
       have hcell:(PQ.drop (j * 4)).take 4=n.cs:=by
        rw[← hPQ,hn]
        rcases (by omega:j=0∨j=1) with rfl |rfl
        ·cases p;cases q;rfl
        ·cases p;cases q;rfl
       have hnx2:LW (j+1)=LW j++(if zbs n d=(m:Int) then n.cuts else []):=by
        rw[hLW,hn]
        rcases (by omega:j=0∨j=1) with rfl |rfl
        ·rfl
        ·rfl
       have hj4:j * 4+4≤8:=by omega
       have hj2I:(j:Int)<2:=by omega
       simp-implicitDefEqProofs[go_sem,t0,t1,t2,t3,t4,t5,t6,t7,t15,t16,t82,t83,t84,gPQ,gd',hj2,hj2I,hPl,hcell,hj4,y1,y2]
       refine Ret.use (zte n w d) ?_
       have hnab:(n∈a∧DgOk a d)∨(n∈b∧DgOk b d):=by
        rw[hn]
        rcases (by omega:j=0∨j=1) with rfl |rfl
        ·left;exact⟨by rw[if_pos rfl,hp];exact List.getElem_mem hx,ha⟩
        ·right;exact⟨by rw[if_neg (by decide),hq];exact List.getElem_mem hy,hb⟩
       have hcl:cs.length≤40001:=by
        rw[hcs.out,hLW]
        have hc1:=ha.cu _ (List.getElem_mem hx)
        rw[← hp]at hc1
        rcases (by omega:j=0∨j=1) with rfl |rfl
        ·simp
        ·simp only[Nat.reduceEqDiff,if_false,if_true,List.length_append,List.length_cons,List.length_nil]
         split <;> simp <;> omega
       obtain⟨lq,lcp,lo,lo2,le2,l1,l2,l3,rfl,lg,lr⟩:=hLs
       have n1':n.cs[1]?=some (.fz 1 false (za5 n.cuts)):=by cases n;rfl
       have n1:∀hh,n.cs[1]'hh=.fz 1 false (za5 n.cuts):=by cases n;intro hh;rfl
       have hnl:n.cs.length=4:=by cases n;rfl
       have y3:¬lq=nx':=by omega
       have y4:¬nx'=lq:=by omega
       have y5:¬nx'+1=lq:=by omega
       by_cases hk3:zbs n d=(m:Int)
       ·have hne:¬n.cuts.length=0:=by
         have key:∀g:List Nd,n∈g→DgOk g d→¬n.cuts.length=0:=fun g hg hD q=>by
          rcases hD.pr n hg with⟨e1,_⟩ |⟨_,_,_,e2,_⟩
          ·rw[zrl e1]at hk3;omega
          ·exact e2 (List.eq_nil_of_length_eq_zero q)
         rcases hnab with⟨q1,q2⟩ |⟨q1,q2⟩ <;> exact key _ q1 q2
        have hncu:n.cuts.length≤40000:=by
         rcases hnab with⟨q1,q2⟩ |⟨q1,q2⟩ <;> exact q2.cu n q1
        have hsum:cs.length+n.cuts.length≤16777216:=by omega
        have fo:=zi2 n.cuts
        have fc:=zDp n.cuts
        rw[if_pos hk3,← hcs.out]at hnx2
        rcases lr with⟨rfl,rfl⟩ |⟨rfl,rfl,rfl,rfl⟩
        ·simp-implicitDefEqProofs[go_sem,za0,t0,t1,t2,t3,t4,t5,t6,t7,t15,t16,t82,t83,t84,hk3,n1,n1',hnl,lg,fo,fc,hne,hsum,y3,y4,y5]
         refine hJ (2-(j+1)) _ (by omega) ⟨_,_,_,j+1,.sl (nx'+1) 0 (cs++n.cuts).length 0 true,cs++n.cuts,rfl,rfl,by omega,?_⟩
         simp-implicitDefEqProofs (disch:=omega) [go_sem,t0,t1,t2,t3,t4,t5,t6,t7,t15,t16,t82,t83,t84,zab]
         refine⟨by (repeat rw[if_neg (by omega)]);exact gPQ,?_,by omega,⟨nx'+1,0,true,true,1,by omega,by omega,by omega,by simp,?_,.inr ⟨rfl,rfl,rfl,rfl⟩⟩,Lib.hid hnx2.symm⟩
         ·simp(disch:=omega)only[za6]
          exact hEM
         ·rw[zya,Tr.get_put,if_pos rfl]
        ·simp-implicitDefEqProofs[go_sem,za0,t0,t1,t2,t3,t4,t5,t6,t7,t15,t16,t82,t83,t84,hk3,n1,n1',hnl,lg,fo,fc,hne,hsum,y3,y4,y5]
         refine hJ (2-(j+1)) _ (by omega) ⟨_,_,_,j+1,.sl (nx'+1) 0 (cs++n.cuts).length 0 true,cs++n.cuts,rfl,rfl,by omega,?_⟩
         simp-implicitDefEqProofs (disch:=omega) [go_sem,t0,t1,t2,t3,t4,t5,t6,t7,t15,t16,t82,t83,t84,zab]
         refine⟨by (repeat rw[if_neg (by omega)]);exact gPQ,?_,by omega,⟨nx'+1,0,true,true,1,by omega,by omega,by omega,by simp,?_,.inr ⟨rfl,rfl,rfl,rfl⟩⟩,Lib.hid hnx2.symm⟩
         ·simp(disch:=omega)only[za6]
          exact hEM
         ·rw[zya,Tr.get_put,if_pos rfl]
       ·rw[if_neg hk3,List.append_nil,← hcs.out]at hnx2
        simp-implicitDefEqProofs[go_sem,za0,t0,t1,t2,t3,t4,t5,t6,t7,t15,t16,t82,t83,t84,hk3]
        refine hJ (2-(j+1)) _ (by omega) ⟨_,_,_,j+1,.sl lq 0 cs.length lcp lo,cs,rfl,rfl,by omega,?_⟩
        simp-implicitDefEqProofs (disch:=omega) [go_sem,t0,t1,t2,t3,t4,t5,t6,t7,t15,t16,t82,t83,t84,zab]
        refine⟨by (repeat rw[if_neg (by omega)]);exact gPQ,?_,by omega,⟨lq,lcp,lo,lo2,le2,by omega,by omega,by omega,rfl,?_,lr⟩,Lib.hid hnx2.symm⟩
        ·simp(disch:=omega)only[za6]
         exact hEM
        ·rw[Tr.get_put,if_neg (by omega),Tr.get_put,if_neg (by omega)]
         exact lg
      ·obtain rfl:j=2:=by omega
       obtain⟨lq,lcp,lo,lo2,le2,l1,l2,l3,rfl,lg,lr⟩:=hLs
       have hsts:zfl p q d (m:Int) f.lo=zby (zbc cs):=by rw[hcs.out,hLW];rfl
       rw[hsts]at hR
       have hsl:(zbc cs).length=cs.length:=zoc cs
       have hsI:∀a∈zby (zbc cs),I64 a:=fun a' ha'=>by
        rw[← hsts]at ha'
        have v1:=hv f (by rw[hf];exact List.getElem_mem hmd)
        rcases zyd ha' with e |e |e
        ·rw[e];exact v1.2.1
        ·rw[hp]at e;exact(ha.ni _ (List.getElem_mem hx)).2.1 _ e
        ·rw[hq]at e;exact(hb.ni _ (List.getElem_mem hy)).2.1 _ e
       have hsne:zby (zbc cs)≠[]:=by rw[← hsts];exact zCa _ _ _ _ _
       have hsl2:(zby (zbc cs)).length≤80001:=by
        rw[← hsts]
        have:=zEf p q d (m:Int) f.lo
        have hc1:=ha.cu _ (List.getElem_mem hx)
        have hc2:=hb.cu _ (List.getElem_mem hy)
        rw[← hp]at hc1
        rw[← hq]at hc2
        omega
       have hcl:cs.length≤80001:=by
        rw[hcs.out,hLW]
        have hc1:=ha.cu _ (List.getElem_mem hx)
        have hc2:=hb.cu _ (List.getElem_mem hy)
        rw[← hp]at hc1
        rw[← hq]at hc2
        simp only[Nat.reduceEqDiff,if_false,List.length_append,List.length_cons,List.length_nil]
        split <;> split <;> simp <;> omega
       simp-implicitDefEqProofs[go_sem,t0,t1,t2,t3,t4,t5,t6,t7,t15,t16,t82,t83,t84]
       refine zzk cs h' nx' lq lcp le2 lo lo2 lg (by omega) _ ?_
       simp-implicitDefEqProofs[go_sem,za0,t0,t1,t2,t3,t4,t5,t6,t7,t15,t16,t82,t83,t84]
       have hcp:=zCw (zbc cs) [] (h'.put lq (some (bx 3 (za5 (zbc cs)) lo2 le2))) nx' lq lcp le2 lo lo2 (by rw[List.append_nil];simp[go_sem]) (by omega)
       rw[hsl]at hcp
       refine hcp _ fun r'=>?_
       generalize hstd:zby (zbc cs)=sts at *
       simp-implicitDefEqProofs[go_sem,za0,t0,t1,t2,t3,t4,t5,t6,t7,t15,t16,t82,t83,t84]
       generalize hM3:zdd ((h'.put lq (some (bx 3 (za5 (zbc cs)) lo2 le2))).put lq (some (bx 3 (za5 (sts++r')) lo2 le2))) [lq]=M3
       have hfy:=fyI (g:=(h'.put lq (some (bx 3 (za5 (zbc cs)) lo2 le2))).put lq (some (bx 3 (za5 (sts++r')) lo2 le2))) (F:=fun a=>a∈[lq]) (b:=lq) (s:=sts) (r:=r') (cp:=lcp) (esz:=le2) (op:=lo) (opn:=lo2) (by simp) (by simp[go_sem])
       refine znf (fun a=>a∈[lq]) (h':=M3) (by rw[← hM3];exact FyH.kill _) ((FyT.refl.put (k:=16) (by simp[go_sem]) hfy).put (k:=102) (by simp[go_sem]) hfy) ?_
       have hE3:Ext (nx+2) M M3:=by
        intro k1 hk1
        rw[← hM3,zfa (by simp;omega),Tr.get_put,if_neg (by omega),Tr.get_put,if_neg (by omega)]
        exact hEM k1 hk1
       clear hM3 hfy hcp lg lr gPQ gd'
       have hnx2:nx+2≤nx':=by omega
       have hS3:=hS.ext hE3 hnx2
       have hK3:KH O1 bb h nx O1 M3 nx':=hKM.trans (KH.ofExt hE3 hnx2)
       clear hE3 hEM
       generalize hgg:(fun v H=>zcu a b d k (zch p x (m:Int) v).toNat (zch q y (m:Int) v).toNat H)=gg at hR
       obtain⟨FG,hFG⟩:∃FG,FG=zd7 gg sts H:=⟨_,rfl⟩
       rw[← hFG]at hR
       have hin0:inn H.L≤20000:=Nat.le_trans (List.length_filter_le _ _) (by omega)
       refine zap (fun mm st=>∃tm h' n' j O' H' ks kv,st=.mk tm h' n' []∧mm=sts.length-j∧j≤sts.length∧tm.get 0=some (.int .i64 (x:Int))∧tm.get 1=some (.int .i64 (y:Int))∧tm.get 2=some (.ptr (bb+3) 0)∧tm.get 3=some (.ptr e 0)∧tm.get 4=some (.ptr (e+1) 0)∧tm.get 5=some (.ptr (e+2) 0)∧tm.get 6=some (.ptr (bb+1) 0)∧tm.get 7=some (.ptr (bb+4) 0)∧tm.get 15=some (.int .i64 (m:Int))∧tm.get 16=some (.fz 1 false (za5 sts))∧tm.get 19=some kv∧tm.get 102=some (.fz 1 false (za5 sts))∧tm.get 103=some (.int .i64 (sts.length:Int))∧tm.get 104=some (.int .i64 (j:Int))∧
        KdI nx' O' h' n' kv ks∧ks.length=j∧KH O1 bb M3 nx' O' h' n'∧HSt O' e bb u v w a b d H' h' n'∧(∀a,O' a→a<n')∧HI H'∧inn H'.L≤20000+k∧(∀a∈ks,0≤a∧a<(H'.L.length:Int))∧
        RowKit.Hid (FG=(ks++(zd7 gg (sts.drop j) H').1,(zd7 gg (sts.drop j) H').2))) ⟨sts.length,_,_,_,0,O1,H,[],.sl0,rfl,by simp,by simp,?_⟩ ?_
       ·simp-implicitDefEqProofs[go_sem,t0,t1,t2,t3,t4,t5,t6,t7,t15]
        exact⟨.inl ⟨rfl,rfl⟩,KH.ofExt (Ext.refl _ _) (Nat.le_refl _),hS3,fun a ha'=>by have:=hOl a ha';omega,hH,by omega,Lib.hid hFG⟩
       ·rintro mm st ⟨tm,h',n',j,O',H',ks,kv,rfl,rfl,hj,t0,t1,t2,t3,t4,t5,t6,t7,t15,t16,t19,t102,t103,t104,hkd,hkl,hKG,hGS,hOl',hGI',hinn,hkr,hv'⟩ J hJ
        refine zag za4 _ ?_
        have gx':=hGS.gx
        have gy':=hGS.gy
        have gg':=hGS.gg
        have gm':=hGS.gm
        have hL':H'.L.length≤inn H'.L+2:=hGI'.g.len
        unfold zur at gg'
        by_cases hlt:j<sts.length
        ·obtain⟨z,hz⟩:∃z,z=sts[j]:=⟨_,rfl⟩
         have hv1:=hv'.out
         rw[List.drop_eq_getElem_cons hlt,← hz,zL8]at hv1
         have HV:=Lib.hid hv1
         clear hv1 hv'
         simp-implicitDefEqProofs[go_sem,t0,t1,t2,t3,t4,t5,t6,t7,t15,t16,t19,t102,t103,t104,hlt,← hz]
         refine znm mixed za4 zbe 12 [] [6,11] [] [(0,19,108)] 2 (by kernel_rfl) (by kernel_rfl) ?_
         simp-implicitDefEqProofs[go_sem,t0,t1,t2,t3,t4,t5,t6,t7,t15,t16,t19,t102,t103,t104,gx',gy',gg']
         have kx:¬(a[x]).kids=[]→(a[x]).kids.length=(a[x]).cuts.length+1:=fun q=>((zn8 ha (List.getElem_mem hx)).2.2 q).2.2
         have ky:¬(b[y]).kids=[]→(b[y]).kids.length=(b[y]).cuts.length+1:=fun q=>((zn8 hb (List.getElem_mem hy)).2.2 q).2.2
         have sx:=zyf u a x (m:Int) z hx kx (by have:=ha.cu _ (List.getElem_mem hx);omega)
         have sy:=zyf v b y (m:Int) z hy ky (by have:=hb.cu _ (List.getElem_mem hy);omega)
         obtain⟨s1,s2,s3⟩:=zrm ha hx (m:Int) z (by rw[← hp];exact i3) (by omega)
         obtain⟨r1,r2,r3⟩:=zrm hb hy (m:Int) z (by rw[← hq];exact i4) (by omega)
         simp only[← hp]at sx s1 s2 s3
         simp only[← hq]at sy r1 r2 r3
         obtain⟨x',hx'⟩:∃x',x'=(zch p x (m:Int) z).toNat:=⟨_,rfl⟩
         obtain⟨y',hy'⟩:∃y',y'=(zch q y (m:Int) z).toNat:=⟨_,rfl⟩
         have ex':zch p x (m:Int) z=(x':Int):=by omega
         have ey':zch q y (m:Int) z=(y':Int):=by omega
         have HVg:gg z H'=zcu a b d k x' y' H':=by rw[← hgg,hx',hy']
         simp only[← hx']at s2 s3
         simp only[← hy']at r2 r3
         rw[ex']at sx
         rw[ey']at sy
         rw[HVg]at HV
         have hmin:(m:Int)+1≤zel (a[x']) (b[y']) d:=by
          unfold zel zps
          omega
         clear ex' ey' s1 r1 kx ky
         refine zbm sx ?_
         simp-implicitDefEqProofs[go_sem,zas,t0,t1,t2,t3,t4,t5,t6,t7,t15,t16,t19,t102,t103,t104,gx',gy',gg']
         refine zbm sy ?_
         have hgok:=zq4 a b d hd hv ha hb k x' y' H' s2 r2 (by omega) (by omega) hGI' (by omega)
         refine ih x' y' H' O' h' n' _ s2 r2 (by omega) (by omega) hGI' (by omega) hGS ?_
         intro O2 g2 n2 K2' G2'
         have K2:=K2'.low
         have G2:=G2'.low
         clear K2' G2'
         generalize zcu a b d k x' y' H'=GV at hgok HV G2 ⊢
         obtain⟨wv,S2⟩:=GV
         obtain⟨q1,q2,q3,q4⟩:=hgok
         simp only at q1 q2 q3 q4 G2 ⊢
         have q3l:=q3.len
         have hKn:=hKG.1
         have hn2:=K2.1
         have hKG2:=hKG.trans K2
         have hks2:∀a,a∈ks∨a=wv→0≤a∧a<(S2.L.length:Int):=fun a ha=>by
          rcases ha with ha |rfl
          ·have:=hkr a ha;omega
          ·exact q2
         rcases hkd with⟨rfl,rfl⟩ |⟨hk0,kq,lq',qn,qO,rfl,gq'⟩
         ·simp-implicitDefEqProofs[go_sem,za0,t0,t1,t2,t3,t4,t5,t6,t7,t15,t16,t19,t102,t103,t104]
          refine hJ (sts.length-(j+1)) _ (by omega) ⟨_,_,_,j+1,fun k=>O2 k∧k<n2,S2,[wv],.sl (n2+1) 0 1 0 true,rfl,rfl,by omega,?_⟩
          simp-implicitDefEqProofs (disch:=omega) [go_sem,t0,t1,t2,t3,t4,t5,t6,t7,t15,t16,t19,t102,t103,t104,zab]
          refine⟨.inr ⟨by simp,n2+1,by omega,by omega,fun hq=>by omega,rfl,by simp[go_sem,za5]⟩,by simp at hkl;omega,hKG2.but (q:=n2) (by omega) (fun k k1 k2=>by rw[Tr.get_put,if_neg (by omega),Tr.get_put,if_neg (by omega)]) (by omega),G2.but (q:=n2) (by omega) (fun hq=>by omega) (fun k k1 k2=>by rw[Tr.get_put,if_neg (by omega),Tr.get_put,if_neg (by omega)]) (by omega),by intros;omega,q1,by omega,?_,Lib.hid (by have:=HV.out;simpa using this)⟩
          exact q2
         ·have qO2:¬(O2 kq∧kq<n2):=fun hq=>by
           rcases K2.2.2 kq hq with r |r
           ·exact qO r
           ·omega
          have gq2:g2.get kq=some (bx 3 (za5 ks) true 1):=by rw[K2.2.1 kq qn qO (by omega)];exact gq'
          have z1:¬kq=n2:=by omega
          have z2:¬n2=kq:=by omega
          have z3:¬n2+1=kq:=by omega
          have fo:=zi2 ks
          have hle1:ks.length+1≤16777216:=by omega
          simp-implicitDefEqProofs[go_sem,za0,t0,t1,t2,t3,t4,t5,t6,t7,t15,t16,t19,t102,t103,t104,gq2,z1,z2,z3,fo,hle1]
          refine hJ (sts.length-(j+1)) _ (by omega) ⟨_,_,_,j+1,fun k=>O2 k∧k<n2,S2,ks++[wv],.sl (n2+1) 0 (ks.length+1) 0 true,rfl,rfl,by omega,?_⟩
          simp-implicitDefEqProofs (disch:=omega) [go_sem,t0,t1,t2,t3,t4,t5,t6,t7,t15,t16,t19,t102,t103,t104,zab]
          refine⟨.inr ⟨by simp,n2+1,by omega,by omega,fun hq=>by omega,by simp,by simp[go_sem,za5]⟩,hkl,hKG2.but (q:=kq) (by omega) (fun k k1 k2=>by rw[Tr.get_put,if_neg (by omega),Tr.get_put,if_neg (by omega),Tr.get_put,if_neg (by omega)]) (by omega),G2.but (q:=kq) (by omega) qO2 (fun k k1 k2=>by rw[Tr.get_put,if_neg (by omega),Tr.get_put,if_neg (by omega),Tr.get_put,if_neg (by omega)]) (by omega),by intros;omega,q1,by omega,hks2,Lib.hid (by have:=HV.out;simpa using this)⟩
        ·have hks1:FG=(ks,H'):=by
          have:=hv'.out
          rw[List.drop_of_length_le (by omega)]at this
          simpa[zd7]using this
         have hkl2:ks.length=sts.length:=by omega
         rcases hkd with⟨rfl,_⟩ |⟨hk0,kq,lq',qn,qO,rfl,gq'⟩
         ·exact absurd (List.eq_nil_of_length_eq_zero (by simpa using hkl2.symm)) hsne
         obtain⟨k0,kt,hkc⟩:∃k0 kt,ks=k0::kt:=by
          cases ks with
          |nil=>exact absurd rfl hk0
          |cons a l=>exact⟨a,l,rfl⟩
         have hkI:∀a∈k0::kt,I64 a:=fun a ha=>by
          have:=hkr a (by rw[hkc];exact ha)
          exact⟨by omega,by omega⟩
         have hkcl:(k0::kt).length=sts.length:=by rw[← hkc];exact hkl2
         have w1':IntKind.i64.wrap ((sts.length:Int))=(sts.length:Int):=by rw[zab] <;> omega
         simp-implicitDefEqProofs[go_sem,t0,t1,t2,t3,t4,t5,t6,t7,t15,t16,t19,t102,t103,t104,hlt,gm']
         refine zng (fun a=>a∈[kq]) (FyH.kill _) (args':=[.ptr bb 0,.int .i64 (m:Int),.fz 1 false (za5 sts),.fz 1 false (za5 (k0::kt))]) ?_ ?_
         ·rw[← hkc]
          exact .cons _ _ _ _ (.same _) (.cons _ _ _ _ (.same _) (.cons _ _ _ _ (.same _) (.cons _ _ _ _ (fyI (s:=ks) (r:=[]) (by simp) (by rw[List.append_nil];exact gq')) .nil)))
         have hGK:HSt O' e bb u v w a b d H' (zdd h' [kq]) n':=hGS.but (q:=kq) (by omega) qO (fun k k1 k2=>zfa (by simp;exact k2)) (Nat.le_refl _)
         have hKK:KH O1 bb M3 nx' O' (zdd h' [kq]) n':=hKG.but lq' (fun k k1 k2=>zfa (by simp;exact k2)) (Nat.le_refl _)
         have fin:∀(wv:Int) (O2:Nat→Prop) (L2:List Nd) (g2:Tr ABlk) (n2:Nat),KH O1 bb M3 nx' O2 g2 n2→HSt O2 e bb u v w a b d { H' with L:=L2 } g2 n2→zfs m sts ks H'=(wv,{ H' with L:=L2 })→R (.int .i64 wv) (g2.put (bb+2) (some (.map (dmK (zew ((x:Int),(y:Int)) wv H'.M) 0) (zew ((x:Int),(y:Int)) wv H'.M).length))) n2:=by
          intro wv O2 L2 g2 n2 K2 G2 hI
          rw[hks1]at hR
          simp only[hI]at hR
          exact hR O2 _ n2 (hK3.trans (K2.trans (KH.setM _))) (G2.setM _)
         have hIn:zfs m sts ks H'=if (zax k0 [] [k0] sts (k0::kt)).2.2.length=1 then (k0,{ H' with L:=H'.L }) else ((zeq H'.L ⟨(m:Int),(zax k0 [] [k0] sts (k0::kt)).2.1,(zax k0 [] [k0] sts (k0::kt)).2.2,false⟩:Int),{ H' with L:=zeh H'.L ⟨(m:Int),(zax k0 [] [k0] sts (k0::kt)).2.1,(zax k0 [] [k0] sts (k0::kt)).2.2,false⟩ }):=by
          rw[hkc]
          have hG:zdg m sts (k0::kt) H'.gs=if (zax k0 [] [k0] sts (k0::kt)).2.2.length=1 then (k0,H'.gs) else zbn ⟨(m:Int),(zax k0 [] [k0] sts (k0::kt)).2.1,(zax k0 [] [k0] sts (k0::kt)).2.2,false⟩ H'.gs:=rfl
          unfold zfs
          rw[hG]
          by_cases hh:(zax k0 [] [k0] sts (k0::kt)).2.2.length=1
          ·rw[if_pos hh,if_pos hh];rfl
          ·rw[if_neg hh,if_neg hh];rfl
         refine zCt O' _ n' bb H'.L (m:Int) k0 sts kt false false hGK.mkS (by omega) ⟨by omega,by omega⟩ hsI hkI (by omega) (by omega) ⟨(m:Int),(zax k0 [] [k0] sts (k0::kt)).2.1,(zax k0 [] [k0] sts (k0::kt)).2.2,false⟩ rfl _ (fun g2 n2 c1 c2 c3=>?_) (fun O2 g2 n2 c1 c2 c3 c4=>?_)
         ·have G2:=hGK.ext c2 c3
          have fn:=fin k0 O' H'.L g2 n2 (hKK.trans (KH.ofExt c2 c3)) G2 (by rw[hIn,if_pos c1])
          have gv2:=G2.gv
          have gd2:=G2.gM
          cases hg2:zec ((x:Int),(y:Int)) H'.M with
          |none=>
           have f2:=zp1 0 hg2
           rw[zto hg2,zv3]at fn
           simp-implicitDefEqProofs[go_sem,za0,t0,t1,t2,t3,t4,t5,t6,t7,t15,t16,t19,t102,t103,t104,gv2,gd2,f2,za3]
           simpa using fn
          |some v2=>
           obtain⟨j2,f2,f3,f4⟩:=zqn 0 hg2
           rw[← f4,zut hg2]at fn
           simp-implicitDefEqProofs[go_sem,za0,t0,t1,t2,t3,t4,t5,t6,t7,t15,t16,t19,t102,t103,t104,gv2,gd2,f2,za3]
           simpa using fn
         ·have G2:=hGK.node c3 c4
          have fn:=fin _ O2 _ g2 n2 (hKK.trans (KH.ofKept c3)) G2 (by rw[hIn,if_neg c1])
          have gv2:=G2.gv
          have gd2:=G2.gM
          simp only at fn gd2
          cases hg2:zec ((x:Int),(y:Int)) H'.M with
          |none=>
           have f2:=zp1 0 hg2
           rw[zto hg2,zv3]at fn
           simp-implicitDefEqProofs[go_sem,za0,t0,t1,t2,t3,t4,t5,t6,t7,t15,t16,t19,t102,t103,t104,gv2,gd2,f2,za3]
           simpa using fn
          |some v2=>
           obtain⟨j2,f2,f3,f4⟩:=zqn 0 hg2
           rw[← f4,zut hg2]at fn
           simp-implicitDefEqProofs[go_sem,za0,t0,t1,t2,t3,t4,t5,t6,t7,t15,t16,t19,t102,t103,t104,gv2,gd2,f2,za3]
           simpa using fn
theorem zIm:cx.ft.get 148=some Tryz.f148:=za9 (by decide) (by kernel_rfl)
def zd5 (a b:List Nd)(d:List Fc):Int×HS:=zcu a b d (d.length+1) 0 0 ⟨[],[]⟩
def zoe (a b:List Nd)(d:List Fc):AV:=
 if zbk a d=false∨zbk b d=false then zhg 1 else if 20000<(zd5 a b d).2.L.length then zhg 2 else if 20000<(zc8 (zd5 a b d).2.L (zd5 a b d).1).length then zhg 2 else .tup [.agg [.fz 4 false (zal (zdh (zd5 a b d).2.L (zd5 a b d).1))],.int .i64 0]
theorem zn6 {g:List Nd}{d:List Fc}(h:zbk g d=true):zi3 g d:=by
 by_cases hv:zi3 g d
 ·exact hv
 ·rw[zCz hv]at h;cases h
theorem zJ8 {d:List Fc}(h:zc5 d=true):zli d:=by
 by_cases hv:zli d
 ·exact hv
 ·rw[zrf hv]at h;cases h
theorem zpw {a:List Nd}{d:List Fc}(hv:zi3 a d)(hN:∀n∈a,NdI n)(hc:∀n∈a,n.cuts.length≤40000):DgOk a d:=⟨hv.2.2.2.1,hN,hc,by have:=hv.2.2.1;omega⟩
theorem zt3 {d:List Fc}(h:zc5 d=true):d.length≤60∧∀x∈d,x.lo≤x.hi∧I64 x.lo∧I64 x.hi:=by
 obtain⟨⟨h1,_⟩,h2⟩:=zJ8 h
 refine⟨h2,fun x hx=>?_⟩
 rcases (h1 x hx).1 with⟨_,e1,e2⟩ |⟨_,e1,e2,e3⟩
 ·rw[e1,e2];exact⟨by decide,⟨by omega,by omega⟩,⟨by omega,by omega⟩⟩
 ·exact⟨e2,⟨by omega,by omega⟩,⟨by omega,by omega⟩⟩
set_option maxHeartbeats 4000000 in
theorem zIh (u v w:Bool)(a b:List Nd)(d:List Fc)(hla:a.length≤1000000)(hlb:b.length≤1000000)(hd:d.length≤1000000)(hs:∀f∈d,f.name.size≤1000000000)(hNa:∀n∈a,NdI n)(hNb:∀n∈b,NdI n)
  (hca:zbk a d=true→∀n∈a,n.cuts.length≤40000) (hcb:zbk b d=true→∀n∈b,n.cuts.length≤40000):
  Ret Tryz.prog cx 148 [.agg [.fz 4 u (zal a)],.agg [.fz 4 v (zal b)],.agg [.fz 4 w (za8 d)]] (zoe a b d):=by
 refine Ret.mkW fun h nx R hR=>zaa (sz:=42) (rs:=[.cell 6 92,.tmp 7]) za4 zIm rfl rfl rfl (by simp) ?_
 have hVa:=zqm u w a d hla hd hs hNa
 have hVb:=zqm v w b d hlb hd hs hNb
 obtain⟨res,hres⟩:∃r,r=zoe a b d:=⟨_,rfl⟩
 rw[← hres]at hR
 unfold zoe at hres
 have hNo:∀(k:Int) (g:Tr ABlk) (ny:Nat),Ext nx h g→res=zhg k→R (.tup [.agg [.sl0],.int .i64 k]) g ny:=fun k g ny hE e=>by
  rw[e]at hR
  exact hR _ _ _ (.tup [.agg [.sl0],.int .i64 k]) hE (.tup _ _ (.cons _ _ _ _ (.agg _ _ (.cons _ _ _ _ .sl0 .nil)) (.cons _ _ _ _ (.int _ _) .nil))) (.tup _ _ (.cons _ _ _ _ (.agg _ _ (.cons _ _ _ _ (.sl0 4 false) .nil)) (.cons _ _ _ _ (.same _) .nil)))
 have z1:¬nx=nx+1:=by omega
 have z2:¬nx=nx+1+1:=by omega
 have z3:¬nx=nx+1+1+1:=by omega
 have z4:¬nx+1=nx+1+1:=by omega
 have z5:¬nx+1=nx+1+1+1:=by omega
 have z6:¬nx+1+1=nx+1+1+1:=by omega
 simp-implicitDefEqProofs[go_sem,za3,z1,z2,z3,z4,z5,z6]
 refine Ret.use hVa ?_
 cases hva:zbk a d with
 |false=>
  rw[if_pos (.inl hva)]at hres
  simp-implicitDefEqProofs[go_sem,za0,za3]
  refine hNo 1 _ _ ?_ hres
  simp(disch:=omega)only[za6]
  exact Ext.refl _ _
 |true=>
  simp-implicitDefEqProofs[go_sem,za0,za3,z1,z2,z3,z4,z5,z6]
  refine Ret.use hVb ?_
  cases hvb:zbk b d with
  |false=>
   rw[if_pos (.inr hvb)]at hres
   simp-implicitDefEqProofs[go_sem,za0,za3]
   refine hNo 1 _ _ ?_ hres
   simp(disch:=omega)only[za6]
   exact Ext.refl _ _
  |true=>
   rw[if_neg (by rw[hva,hvb];simp)]at hres
   have pa:=zn6 hva
   have pb:=zn6 hvb
   obtain⟨d1,d2⟩:=zt3 pa.1
   have ha:=zpw pa hNa (hca hva)
   have hb:=zpw pb hNb (hcb hvb)
   simp-implicitDefEqProofs[go_sem,za0,za3,z1,z2,z3,z4,z5,z6]
   generalize hg3:Tr.put _ _ (some (bx 199 [.func 209 [] _] false 0))=g3
   have E3:Ext nx h g3:=by
    rw[← hg3]
    simp(disch:=omega)only[za6]
    exact Ext.refl _ _
   have dr:g3.get (nx+1+1+1)=some (bx 92 [.sl0] false 0):=by rw[← hg3];simp(disch:=omega) [go_sem,NEx]
   have G3:HSt (fun k=>k=nx+4) nx (nx+4) u v w a b d ⟨[],[]⟩ g3 (nx+9):=by
    refine⟨by omega,by omega,fun k hk=>.inl hk,?_,?_,?_,?_,?_,?_,?_,⟨by simp,.sl0,.map0,?_,?_⟩⟩
    ·rw[← hg3];simp(disch:=omega) [go_sem,NEx]
    ·rw[← hg3];simp(disch:=omega) [go_sem,NEx]
    ·rw[← hg3];simp(disch:=omega) [go_sem,NEx]
    ·rw[← hg3];simp(disch:=omega) [go_sem,NEx]
    ·rw[← hg3];simp(disch:=omega) [go_sem,NEx,dmK]
    ·rw[← hg3];simp(disch:=omega) [go_sem,NEx]
    ·rw[← hg3];simp(disch:=omega) [go_sem,NEx,zur]
    ·rw[← hg3];simp(disch:=omega) [go_sem,NEx]
    ·exact⟨rfl,rfl,by omega,.inl ⟨rfl,rfl,rfl⟩⟩
   clear hg3
   have hx0:0<a.length:=pa.2.1
   have hy0:0<b.length:=pb.2.1
   have HI0:HI ⟨[],[]⟩:=⟨⟨by simp[HS.gs],by intro n hn;simp[HS.gs]at hn,by simp[HS.gs],by simp[HS.gs],by simp[HS.gs]⟩,by simp⟩
   have hb0:=zly ha hb (List.getElem_mem hx0) (List.getElem_mem hy0)
   have hgok:=zq4 a b d (by omega) d2 ha hb (d.length+1) 0 0 ⟨[],[]⟩ hx0 hy0 (by omega) (Nat.le_refl _) HI0 (by simp[inn])
   refine zG7 a b d (by omega) d2 ha hb u v w nx (nx+4) (d.length+1) 0 0 ⟨[],[]⟩ (fun k=>k=nx+4) g3 (nx+9) _ hx0 hy0 (by omega) (Nat.le_refl _) HI0 (by simp[inn]) G3 ?_
   intro O2 g2 n2 K2' G2'
   have K2:=K2'.low
   have G2:=G2'.low
   clear K2' G2'
   have hGV:zcu a b d (d.length+1) 0 0 ⟨[],[]⟩=zd5 a b d:=rfl
   rw[hGV]at hgok G2 ⊢
   generalize zd5 a b d=GV at hgok G2 hres ⊢
   obtain⟨wv,S2⟩:=GV
   obtain⟨q1,q2,q3,q4⟩:=hgok
   simp only at q1 q2 q3 q4 G2 hres ⊢
   have hny:=K2.1
   have e3:g2.get (nx+1+1+1)=some (bx 92 [.sl0] false 0):=by
    rw[K2.2.1 _ (by omega) (by omega) (by omega)];exact dr
   have E4:Ext nx h g2:=fun k hk=>by
    rw[K2.2.1 k (by omega) (by omega) (by omega)];exact E3 k hk
   have gm:g2.get (nx+4+1)=some (bx 182 [.ptr (nx+4) 0] false 0):=G2.gm
   have hSL:S2.L.length≤inn S2.L+2:=q1.g.len
   obtain⟨ma,mc,gb,hA⟩:=G2.all
   have hLA:∀(e:TypeId) (size b:Nat) (z:Option AV) (fs:List (Nat×Nat×Bool)) (g:Tr ABlk) (n:Nat),zdu (.mk (.slice e) size b z fs) ma g n=.val (.int .i64 (S2.L.length:Int)) g n:=by
    intro e' size b' z fs g n
    rcases hA with⟨h0,ha⟩ |⟨q,ha⟩
    ·rw[ha,znk,h0];rfl
    ·rw[ha,zo8]
   by_cases hbig:20000<S2.L.length
   ·have hbigI:(20000:Int)<(S2.L.length:Int):=by omega
    rw[if_pos hbig]at hres
    simp-implicitDefEqProofs[go_sem,za0,gm,gb,hLA,hbig,hbigI,e3,za3]
    refine hNo 2 _ _ ?_ hres
    simp(disch:=omega)only[za6]
    exact E4
   ·have hbigI:¬(20000:Int)<(S2.L.length:Int):=by omega
    rw[if_neg hbig]at hres
    simp-implicitDefEqProofs[go_sem,za0,gm,gb,hLA,hbig,hbigI,e3,za3]
    refine za7.useE (zta _ S2.L (nx+4) n2 g2 wv G2.mkS (fun k hk=>hk.2) q1.g.wk (fun n hn=>by have:=(q1.g.ni n hn).2.2.2.2;omega) (by omega) q2) ?_
    by_cases hbig2:20000<(zc8 S2.L wv).length
    ·rw[if_pos hbig2]at hres
     rw[if_pos hbig2]
     simp-implicitDefEqProofs[go_sem,za0,e3,za3]
     rw[hres]at hR
     refine hR _ _ _ _ ?_ (Fz.same _ (by simp[plain,zah])) (.same _)
     simp(disch:=omega)only[za6]
     exact E4
    ·rw[if_neg hbig2]at hres
     rw[if_neg hbig2]
     simp-implicitDefEqProofs[go_sem,za0,e3,za3]
     rw[hres]at hR
     refine hR _ _ _ _ ?_ (Fz.same _ (by simp[plain,zah,zlq])) (.same _)
     simp(disch:=omega)only[za6]
     exact E4
theorem zH5:cx.ft.get 131=some Tryz.f131:=za9 (by decide) (by kernel_rfl)
def zkb (nm:ByteArray→Bool):Fm→Bool
 |.mk o n c m kids=>
  if o≠3∧(c≠0∨m≠0) then false else if o≠3∧o≠4∧n≠⟨#[]⟩ then false else
  if o=1∨o=2 then decide (kids.length=0) else
  if o=3 then (decide (kids.length=0) && nm n) && (decide (1≤c) && decide (c≤6)) else
  if o=4 then decide (kids.length=0) && nm n else
  if o=5 then decide (kids.length=1) else
  if o=6∨o=7 then decide (2≤kids.length) else false
def Fm.nam:Fm→ByteArray
 |.mk _ n _ _ _=>n
set_option maxHeartbeats 4000000 in
theorem zMk (nm:ByteArray→Bool)(f:Fm)(hnm:Ret Tryz.prog cx 193 [.bs f.nam] (.bool (nm f.nam))):Ret Tryz.prog cx 131 [.agg f.cs] (.bool (zkb nm f)):=by
 refine Ret.mk fun h nx R hR=>zaa (sz:=79) (rs:=[.tmp 2]) za4 zH5 rfl rfl rfl (by simp) ?_
 obtain⟨o,n,c,m,kids⟩:=f
 have hnm2:Ret Tryz.prog cx 193 [.bs n] (.bool (nm n)):=hnm
 clear hnm
 have E:∀x,Ext nx h (h.put nx x):=fun x=>(Ext.refl nx h).put (Nat.le_refl _) _
 obtain⟨r,hr⟩:∃r,r=zkb nm (.mk o n c m kids):=⟨_,rfl⟩
 rw[← hr]at hR
 simp only[zkb]at hr
 have hR2:∀b g ny,b=r→Ext nx h g→R (.bool b) g ny:=fun b g ny hb hE=>hR _ _ _ hE (Fz.eq rfl (by rw[hb]))
 clear hR
 have hkl:(zat kids).length=kids.length:=by simp[go_sem]
 have hk0:(kids.length:Int)=0↔kids.length=0:=by omega
 by_cases o3:o=3
 ·subst o3
  rw[if_neg (by simp),if_neg (by simp),if_neg (by simp),if_pos rfl]at hr
  by_cases k0:kids.length=0
  ·simp-implicitDefEqProofs[go_sem,Fm.cs,hkl,k0]
   refine Ret.use hnm2 ?_
   cases hn:nm n with
   |false=>
    simp-implicitDefEqProofs[go_sem,za0]
    exact hR2 _ _ _ (by rw[hr];simp[*]) (E _)
   |true=>
    by_cases c1:1≤c
    ·simp-implicitDefEqProofs[go_sem,za0,c1]
     exact hR2 _ _ _ (by rw[hr];simp[*]) (E _)
    ·simp-implicitDefEqProofs[go_sem,za0,c1]
     exact hR2 _ _ _ (by rw[hr];simp[*]) (E _)
  ·have k0I:¬(kids.length:Int)=0:=by omega
   simp-implicitDefEqProofs[go_sem,Fm.cs,hkl,k0,k0I]
   exact hR2 _ _ _ (by rw[hr];simp[*]) (E _)
 by_cases hc:c=0
 ·by_cases hm:m=0
  ·subst hc;subst hm
   rw[if_neg (by simp)]at hr
   by_cases o4:o=4
   ·subst o4
    rw[if_neg (by simp),if_neg (by simp),if_neg (by simp),if_pos rfl]at hr
    by_cases k0:kids.length=0
    ·simp-implicitDefEqProofs[go_sem,Fm.cs,hkl,k0]
     refine Ret.use hnm2 ?_
     simp-implicitDefEqProofs[go_sem,za0]
     exact hR2 _ _ _ (by rw[hr];simp[k0]) (E _)
    ·have k0I:¬(kids.length:Int)=0:=by omega
     simp-implicitDefEqProofs[go_sem,Fm.cs,hkl,k0,k0I]
     exact hR2 _ _ _ (by rw[hr];simp[k0]) (E _)
   by_cases hn:n=⟨#[]⟩
   ·rw[if_neg (by simp[hn])]at hr
    by_cases o1:o=1
    ·subst o1
     rw[if_pos (.inl rfl)]at hr
     simp-implicitDefEqProofs[go_sem,Fm.cs,hkl,hn]
     exact hR2 _ _ _ (by rw[hr,decide_eq_decide];simp) (E _)
    by_cases o2:o=2
    ·subst o2
     rw[if_pos (.inr rfl)]at hr
     simp-implicitDefEqProofs[go_sem,Fm.cs,hkl,hn]
     exact hR2 _ _ _ (by rw[hr,decide_eq_decide];simp) (E _)
    rw[if_neg (by omega),if_neg o3,if_neg o4]at hr
    by_cases o5:o=5
    ·subst o5
     rw[if_pos rfl]at hr
     simp-implicitDefEqProofs[go_sem,Fm.cs,hkl,hn]
     exact hR2 _ _ _ (by rw[hr,decide_eq_decide];omega) (E _)
    rw[if_neg o5]at hr
    by_cases o6:o=6
    ·subst o6
     rw[if_pos (.inl rfl)]at hr
     simp-implicitDefEqProofs[go_sem,Fm.cs,hkl,hn]
     exact hR2 _ _ _ (by rw[hr,decide_eq_decide];omega) (E _)
    by_cases o7:o=7
    ·subst o7
     rw[if_pos (.inr rfl)]at hr
     simp-implicitDefEqProofs[go_sem,Fm.cs,hkl,hn]
     exact hR2 _ _ _ (by rw[hr,decide_eq_decide];omega) (E _)
    rw[if_neg (by omega)]at hr
    simp-implicitDefEqProofs[go_sem,Fm.cs,hkl,hn,o1,o2,o3,o4,o5,o6,o7]
    exact hR2 _ _ _ (by rw[hr]) (E _)
   ·rw[if_pos ⟨o3,o4,hn⟩]at hr
    simp-implicitDefEqProofs[go_sem,Fm.cs,hkl,hn,o3,o4]
    exact hR2 _ _ _ (by rw[hr]) (E _)
  ·rw[if_pos ⟨o3,.inr hm⟩]at hr
   simp-implicitDefEqProofs[go_sem,Fm.cs,hkl,o3,hc,hm]
   exact hR2 _ _ _ (by rw[hr]) (E _)
 ·rw[if_pos ⟨o3,.inl hc⟩]at hr
  simp-implicitDefEqProofs[go_sem,Fm.cs,hkl,o3,hc]
  exact hR2 _ _ _ (by rw[hr]) (E _)
end
end Go.Ev
