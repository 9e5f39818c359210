/- Texts T80 T81 T82 T83. -/
import Derived.KernelRfl
import Derived.Test.YtkdnmldmffkkoaaGreatDoorP14
import Derived.Test.YtkdnmldmffkkoaaGreatDoorP17
import Derived.Test.YtkdnmldmffkkoaaGreatDoorP33
set_option linter.unusedSimpArgs false
set_option linter.unusedVariables false
set_option maxRecDepth 100000
namespace Go.Ev
open Go.Proofs Go.RowKit
noncomputable section
attribute [-go_sem] zaf zac zay zbj
theorem ft5:cx.ft.get 5=some Tryz.f5:=za9 (by decide) (by kernel_rfl)
mutual
theorem zE7:∀s:Stt,zaw s s=true
 |.mk o n d k=>by rw[zaw,zz6 k];simp
theorem zz6:∀l:List Stt,zdm l l=true
 |[]=>rfl
 |s::l=>by rw[zdm,zE7 s,zz6 l];rfl
end
def zdx (a:Pv)(s:Stt):Nat→Pv
 |0=>{ a with begin_:=s }
 |1=>{ a with end_:=s }
 |_=>{ a with again:=s }
def zf5 (a:Pv):Nat→Stt
 |0=>a.begin_
 |1=>a.end_
 |_=>a.again
theorem zws (a:Pv)(s:Stt) (k:Nat)(d:List Fc)(he:(zc9 a (zdx a s k) d).e=0):(zc9 a (zdx a s k) d).k≠1∧((zc9 a (zdx a s k) d).k=2↔zaw (zf5 a k) s=false):=by
 have hf:zg8 a (zdx a s k):=by
  unfold zdx zg8
  rcases k with _ |_ |k <;> exact⟨rfl,rfl,rfl,rfl,rfl,fun _=>Iff.rfl⟩
 have hs:(zaw a.begin_ (zdx a s k).begin_ && zaw a.end_ (zdx a s k).end_ && zaw a.again (zdx a s k).again)=zaw (zf5 a k) s:=by
  unfold zdx zf5
  rcases k with _ |_ |k <;> simp[zE7]
 have hz:∀D,(zhj a (zdx a s k) D).e=0→(zhj a (zdx a s k) D).k≠1∧((zhj a (zdx a s k) D).k=2↔zaw (zf5 a k) s=false):=by
  intro D
  unfold zhj
  rw[hs]
  by_cases h1:60<D.length
  ·rw[if_pos h1];intro e;cases e
  ·rw[if_neg h1,if_neg (fun q=>q hf)]
   cases hh:zaw (zf5 a k) s with
   |false=>rw[if_pos rfl];intro _;simp
   |true=>
    rw[if_neg (by simp)]
    split
    ·rename_i h;intro e;exact absurd e h
    ·split <;> intro _ <;> simp
 unfold zc9 at he ⊢
 split at he
 ·cases he
 ·rename_i h0
  rw[if_neg h0]
  split at he
  ·rename_i h;exact absurd he h
  ·rename_i h1
   rw[if_neg h1]
   split at he
   ·rename_i h;exact absurd he h
   ·rename_i h2
    rw[if_neg h2]
    cases hm:zgg d (zc6 a.when_++zc6 (zdx a s k).when_) [] d with
    |none=>rw[hm]at he;cases he
    |some D=>rw[hm]at he;exact hz D he
theorem zQp (a:Pv):(a.cs.drop 11).take 4=a.begin_.cs∧(a.cs.drop 15).take 4=a.end_.cs∧(a.cs.drop 19).take 4=a.again.cs:=by
 rcases a with⟨id,rank,kind,name,value,⟨w1,w2,w3,w4,w5⟩,ex,⟨b1,b2,b3,b4⟩,⟨e1,e2,e3,e4⟩,⟨g1,g2,g3,g4⟩⟩
 exact⟨rfl,rfl,rfl⟩
theorem zSu (a:Pv)(s:Stt):za3 a.cs 11 s.cs=(zdx a s 0).cs∧za3 a.cs 15 s.cs=(zdx a s 1).cs∧za3 a.cs 19 s.cs=(zdx a s 2).cs:=by
 rcases a with⟨id,rank,kind,name,value,⟨w1,w2,w3,w4,w5⟩,ex,⟨b1,b2,b3,b4⟩,⟨e1,e2,e3,e4⟩,⟨g1,g2,g3,g4⟩⟩
 rcases s with⟨s1,s2,s3,s4⟩
 exact⟨rfl,rfl,rfl⟩
mutual
theorem Stt.cs_plain:∀f:Stt,zah f.cs=true
 |.mk o n d k=>by simp[Stt.cs,zah,plain,zz7 k]
theorem zz7:∀l:List Stt,zah (zda l)=true
 |[]=>by simp[zda,zah]
 |f::l=>by simp[zda,zah,plain,Stt.cs_plain f,zz7 l]
end
theorem zzj:∀l:List ByteArray,zah (zaj l)=true
 |[]=>rfl
 |x::l=>by rw[show zaj (x::l)=.bs x::zaj l from rfl];simp[zah,plain,zzj l]
theorem zkf:∀l m:List AV,zah l=true→zah m=true→zah (l++m)=true
 |[],m,_,h=>h
 |v::l,m,h,h2=>by
  simp only[List.cons_append,zah,Bool.and_eq_true]at h ⊢
  exact⟨h.1,zkf l m h.2 h2⟩
theorem Pv.cs_plain (a:Pv):zah a.cs=true:=by
 unfold Pv.cs
 refine zkf _ _ (by simp[zah,plain]) (zkf _ _ (Fm.cs_plain _) (zkf _ _ (by simp[zah,plain,zzj]) (zkf _ _ (Stt.cs_plain _) (zkf _ _ (Stt.cs_plain _) (Stt.cs_plain _)))))
theorem zu9 {g:Tr ABlk}{nx i esz:Nat}{a b:Pv}{T:List AV}{opn:Bool}(hb:nx≤i)(hg:g.get i=some (bx 30 (a.cs++(b.cs++T)) opn esz)):Fz g nx (.sl i 0 2 2 false) (.fz 23 false (zhr [a,b])):=
 .slz i 0 2 2 false 30 _ _ opn esz 23 (a.cs++b.cs) (a.cs++b.cs) (zhr [a,b]) hb hg (by simp) (fun j hj=>by
  rw[Nat.zero_add,zbt,← List.append_assoc,List.getElem?_append_left hj]) (FzL.same _ (zkf _ _ a.cs_plain b.cs_plain)) ⟨a.cs,b.cs,rfl,rfl,a.cs_len,.inl rfl,b.cs,[],by simp,rfl,b.cs_len,.inl rfl,rfl⟩ rfl
@[go_sem] theorem ydm (k:IntKind) (n:Nat)(h:Tr ABlk) (nx:Nat):zc2 .rem k (n:Int) 3 h nx=.val (.int k ((n % 3:Nat):Int)) h nx:=by
 simp only[zc2,fI_eq]
 rfl
open Classical in
set_option maxHeartbeats 8000000 in
theorem zLn (hHead:Ret Tryz.prog cx 8 [] (.bool true))(w:Bool)(a:Pv)(s:Stt) (n:Nat)(hn:n<256)(d:List Fc):Ret Tryz.prog cx 5 [.agg a.cs,.agg s.cs,.int .u8 (n:Int),.agg [.fz 4 w (za8 d)]] (.bool true):=by
 refine Ret.mk fun h nx R hR=>za7.ofLe fun hG=>zaa (sz:=67) (rs:=[.tmp 8]) za4 ft5 rfl rfl rfl (by simp) ?_
 have hf:∀g ny,Ext nx h g→R (.bool true) g ny:=fun g ny he=>hR _ _ _ he (Fz.eq rfl rfl)
 clear hR
 obtain⟨hb1,hb2,hb3⟩:=zQp a
 obtain⟨hs1,hs2,hs3⟩:=zSu a s
 have hal:=a.cs_len
 have hao:=zih a
 have hsl:=s.cs_len
 have hso:zba s.cs=true:=by cases s;rfl
 obtain⟨A,hA⟩:∃A,A=a.cs:=⟨_,rfl⟩
 obtain⟨S,hS⟩:∃S,S=s.cs:=⟨_,rfl⟩
 rw[← hA]at hb1 hb2 hb3 hs1 hs2 hs3 hal hao ⊢
 rw[← hS]at hs1 hs2 hs3 hsl hso ⊢
 have hAt:A.take 23=A:=List.take_of_length_le (by omega)
 have hSt:S.take 4=S:=List.take_of_length_le (by omega)
 have v01:¬nx=nx+1:=by omega
 have v02:¬nx=nx+1+1:=by omega
 have v03:¬nx=nx+1+1+1:=by omega
 have v04:¬nx=nx+1+1+1+1:=by omega
 have v05:¬nx=nx+1+1+1+1+1:=by omega
 have v10:¬nx+1=nx:=by omega
 have v12:¬nx+1=nx+1+1:=by omega
 have v13:¬nx+1=nx+1+1+1:=by omega
 have v14:¬nx+1=nx+1+1+1+1:=by omega
 have v15:¬nx+1=nx+1+1+1+1+1:=by omega
 have v20:¬nx+1+1=nx:=by omega
 have v21:¬nx+1+1=nx+1:=by omega
 have v23:¬nx+1+1=nx+1+1+1:=by omega
 have v24:¬nx+1+1=nx+1+1+1+1:=by omega
 have v25:¬nx+1+1=nx+1+1+1+1+1:=by omega
 have v30:¬nx+1+1+1=nx:=by omega
 have v31:¬nx+1+1+1=nx+1:=by omega
 have v32:¬nx+1+1+1=nx+1+1:=by omega
 have v34:¬nx+1+1+1=nx+1+1+1+1:=by omega
 have v35:¬nx+1+1+1=nx+1+1+1+1+1:=by omega
 have v40:¬nx+1+1+1+1=nx:=by omega
 have v41:¬nx+1+1+1+1=nx+1:=by omega
 have v42:¬nx+1+1+1+1=nx+1+1:=by omega
 have v43:¬nx+1+1+1+1=nx+1+1+1:=by omega
 have v45:¬nx+1+1+1+1=nx+1+1+1+1+1:=by omega
 have v50:¬nx+1+1+1+1+1=nx:=by omega
 have v51:¬nx+1+1+1+1+1=nx+1:=by omega
 have v52:¬nx+1+1+1+1+1=nx+1+1:=by omega
 have v53:¬nx+1+1+1+1+1=nx+1+1+1:=by omega
 have v54:¬nx+1+1+1+1+1=nx+1+1+1+1:=by omega
 simp-implicitDefEqProofs[go_sem]
 refine Ret.use hHead ?_
 simp-implicitDefEqProofs[go_sem,za0,hal,hao,hsl,hso,hAt,hSt,hb1,hb2,hb3,za3,v01,v02,v03,v04,v05,v10,v12,v13,v14,v15,v20,v21,v23,v24,v25,v30,v31,v32,v34,v35,v40,v41,v42,v43,v45,v50,v51,v52,v53,v54]
 have hr:(n:Int) % 3=0∨(n:Int) % 3=1∨(n:Int) % 3=2:=by omega
 rcases hr with hr |hr |hr
 ·simp-implicitDefEqProofs[go_sem,hal,hao,hsl,hso,hAt,hSt,hb1,hb2,hb3,hs1,hs2,hs3,hr,v01,v02,v03,v04,v05,v10,v12,v13,v14,v15,v20,v21,v23,v24,v25,v30,v31,v32,v34,v35,v40,v41,v42,v43,v45,v50,v51,v52,v53,v54]
  have hlaw:=zws a s 0 d
  obtain⟨b,hb⟩:∃b,b=zdx a s 0:=⟨_,rfl⟩
  rw[← hb]at hlaw ⊢
  obtain⟨O,hO⟩:∃O,O=zf5 a 0:=⟨_,rfl⟩
  have hOc:O.cs=(zf5 a 0).cs:=by rw[hO]
  rw[← hO]at hlaw
  have hsO:b.begin_=b.begin_:=rfl
  have hbl:=b.cs_len
  have hbo:=zih b
  have hsz:zd9 b 40→zd9 a 40→O.size≤40∧s.size≤40:=fun q1 q2=>by
   rw[hb]at q1
   rw[hO]
   obtain⟨_,_,e1,e2,e3⟩:=q1
   obtain⟨_,_,f1,f2,f3⟩:=q2
   exact⟨f1,e1⟩
  have hfew:=zu2 w false d [a,b] (by simp)
  generalize hBB:b.cs=B at hbl hbo ⊢
  have hBt:B.take 23=B:=List.take_of_length_le (by omega)
  simp-implicitDefEqProofs[go_sem,hal,hao,hsl,hso,hAt,hSt,hbl,hbo,hBt,za3,hr,v01,v02,v03,v04,v05,v10,v12,v13,v14,v15,v20,v21,v23,v24,v25,v30,v31,v32,v34,v35,v40,v41,v42,v43,v45,v50,v51,v52,v53,v54]
  generalize hMM:Tr.put _ (nx+1+1+1+1+1) (some (bx 30 (A++_) false 0))=M
  have m0:M.get nx=some (bx 30 A false 0):=by rw[← hMM];simp-implicitDefEqProofs[go_sem,v01,v02,v03,v04,v05,v10,v12,v13,v14,v15,v20,v21,v23,v24,v25,v30,v31,v32,v34,v35,v40,v41,v42,v43,v45,v50,v51,v52,v53,v54]
  have m1:M.get (nx+1)=some (bx 28 S false 0):=by rw[← hMM];simp-implicitDefEqProofs[go_sem,v01,v02,v03,v04,v05,v10,v12,v13,v14,v15,v20,v21,v23,v24,v25,v30,v31,v32,v34,v35,v40,v41,v42,v43,v45,v50,v51,v52,v53,v54]
  have m2:M.get (nx+1+1)=some (bx 35 [.fz 4 w (za8 d)] false 0):=by rw[← hMM];simp-implicitDefEqProofs[go_sem,v01,v02,v03,v04,v05,v10,v12,v13,v14,v15,v20,v21,v23,v24,v25,v30,v31,v32,v34,v35,v40,v41,v42,v43,v45,v50,v51,v52,v53,v54]
  have m3:M.get (nx+1+1+1)=some (bx 30 B false 0):=by rw[← hMM];simp-implicitDefEqProofs[go_sem,v01,v02,v03,v04,v05,v10,v12,v13,v14,v15,v20,v21,v23,v24,v25,v30,v31,v32,v34,v35,v40,v41,v42,v43,v45,v50,v51,v52,v53,v54]
  have m4:M.get (nx+1+1+1+1)=some (bx 28 O.cs false 0):=by rw[← hMM,hOc];simp-implicitDefEqProofs[go_sem,v01,v02,v03,v04,v05,v10,v12,v13,v14,v15,v20,v21,v23,v24,v25,v30,v31,v32,v34,v35,v40,v41,v42,v43,v45,v50,v51,v52,v53,v54,zf5]
  have m5:∃T,M.get (nx+1+1+1+1+1)=some (bx 30 (a.cs++(b.cs++T)) false 0):=by rw[← hMM,Tr.get_put,if_pos rfl,hBB,← hA];exact⟨_,rfl⟩
  have hE:Ext nx h M:=by
   rw[← hMM]
   simp(disch:=omega)only[za6]
   exact Ext.refl _ _
  clear hMM
  obtain⟨T,m5⟩:=m5
  refine Ret.useB zgh hfew rfl (.cons _ _ _ _ (Fz.same _ (by simp[plain,zah,zji])) (.cons _ _ _ _ (zu9 (by omega) m5) .nil)) ?_
  by_cases hq:(∀i (h:i < [a,b].length),zd9 [a,b][i] 40)∧zii d 8
  ·have qa:zd9 a 40:=hq.1 0 (by simp)
   have qb:zd9 b 40:=hq.1 1 (by simp)
   have qd:=hq.2
   obtain⟨sO,sS⟩:=hsz qb qa
   rw[decide_eq_true hq]
   have hD:=znc w a b d (by have:=qa.2.1;omega) (by have:=qb.2.1;omega) (by have:=qd.1;omega) (fun f hf=>by
    obtain⟨i,hi,rfl⟩:=List.getElem_of_mem hf
    have:=qd.2 i hi
    omega) (by have:=qa.1.1;omega) (by have:=qb.1.1;omega) (by obtain⟨_,_,e1,e2,e3⟩:=qa;omega) (by obtain⟨_,_,e1,e2,e3⟩:=qb;omega)
   have hSt2:=zx0 1000000000 O s (by omega) (Nat.le_refl _)
   rw[← hS]at hSt2
   rw[← hA,hBB]at hD
   generalize zc9 a b d=DR at hD hlaw
   obtain⟨k,c,e⟩:=DR
   simp only[DfR.v]at hD hlaw
   simp-implicitDefEqProofs[go_sem,za0,m0,m1,m2,m3,m4,hal,hbl,hAt,hBt]
   refine Ret.use hD ?_
   by_cases he:e=0
   ·obtain⟨l1,l2⟩:=hlaw he
    subst he
    by_cases hk2:k=2
    ·have hs0:=l2.1 hk2
     rw[hs0]at hSt2
     subst hk2
     have k1x:True:=trivial
     have k2x:True:=trivial
     simp-implicitDefEqProofs[go_sem,za0,m0,m1,m2,m3,m4,hal,hbl,hAt,hBt,za3]
     refine zbq mixed za4 zbe [] [12] [] (by kernel_rfl) ?_
     simp-implicitDefEqProofs[go_sem,za0,m0,m1,m2,m3,m4,hal,hbl,hAt,hBt,za3,hsl,hSt,hso,k1x,k2x]
     refine zbm hSt2 ?_
     simp-implicitDefEqProofs[go_sem,za0,zas,m0,m1,m2,m3,m4,hal,hbl,hAt,hBt,za3,hsl,hSt,hso,k1x,k2x]
     refine hf _ _ ?_
     simp(disch:=omega)only[za6]
     exact hE
    ·have hs0:zaw O s=true:=by
      cases hh:zaw O s with
      |true=>rfl
      |false=>exact absurd (l2.2 hh) hk2
     rw[hs0]at hSt2
     have k1x:¬k=1:=l1
     have k2x:¬k=2:=hk2
     simp-implicitDefEqProofs[go_sem,za0,m0,m1,m2,m3,m4,hal,hbl,hAt,hBt,za3,l1,hk2]
     refine zbq mixed za4 zbe [] [12] [] (by kernel_rfl) ?_
     simp-implicitDefEqProofs[go_sem,za0,m0,m1,m2,m3,m4,hal,hbl,hAt,hBt,za3,hsl,hSt,hso,k1x,k2x]
     refine zbm hSt2 ?_
     simp-implicitDefEqProofs[go_sem,za0,zas,m0,m1,m2,m3,m4,hal,hbl,hAt,hBt,za3,hsl,hSt,hso,k1x,k2x]
     refine hf _ _ ?_
     simp(disch:=omega)only[za6]
     exact hE
   ·simp-implicitDefEqProofs[go_sem,za0,m0,m1,m2,m3,m4,hal,hbl,hAt,hBt,za3,he]
    refine hf _ _ ?_
    simp(disch:=omega)only[za6]
    exact hE
  ·rw[decide_eq_false hq]
   simp-implicitDefEqProofs[go_sem,za0]
   exact hf _ _ hE
 ·simp-implicitDefEqProofs[go_sem,hal,hao,hsl,hso,hAt,hSt,hb1,hb2,hb3,hs1,hs2,hs3,hr,v01,v02,v03,v04,v05,v10,v12,v13,v14,v15,v20,v21,v23,v24,v25,v30,v31,v32,v34,v35,v40,v41,v42,v43,v45,v50,v51,v52,v53,v54]
  have hlaw:=zws a s 1 d
  obtain⟨b,hb⟩:∃b,b=zdx a s 1:=⟨_,rfl⟩
  rw[← hb]at hlaw ⊢
  obtain⟨O,hO⟩:∃O,O=zf5 a 1:=⟨_,rfl⟩
  have hOc:O.cs=(zf5 a 1).cs:=by rw[hO]
  rw[← hO]at hlaw
  have hsO:b.begin_=b.begin_:=rfl
  have hbl:=b.cs_len
  have hbo:=zih b
  have hsz:zd9 b 40→zd9 a 40→O.size≤40∧s.size≤40:=fun q1 q2=>by
   rw[hb]at q1
   rw[hO]
   obtain⟨_,_,e1,e2,e3⟩:=q1
   obtain⟨_,_,f1,f2,f3⟩:=q2
   exact⟨f2,e2⟩
  have hfew:=zu2 w false d [a,b] (by simp)
  generalize hBB:b.cs=B at hbl hbo ⊢
  have hBt:B.take 23=B:=List.take_of_length_le (by omega)
  simp-implicitDefEqProofs[go_sem,hal,hao,hsl,hso,hAt,hSt,hbl,hbo,hBt,za3,hr,v01,v02,v03,v04,v05,v10,v12,v13,v14,v15,v20,v21,v23,v24,v25,v30,v31,v32,v34,v35,v40,v41,v42,v43,v45,v50,v51,v52,v53,v54]
  generalize hMM:Tr.put _ (nx+1+1+1+1+1) (some (bx 30 (A++_) false 0))=M
  have m0:M.get nx=some (bx 30 A false 0):=by rw[← hMM];simp-implicitDefEqProofs[go_sem,v01,v02,v03,v04,v05,v10,v12,v13,v14,v15,v20,v21,v23,v24,v25,v30,v31,v32,v34,v35,v40,v41,v42,v43,v45,v50,v51,v52,v53,v54]
  have m1:M.get (nx+1)=some (bx 28 S false 0):=by rw[← hMM];simp-implicitDefEqProofs[go_sem,v01,v02,v03,v04,v05,v10,v12,v13,v14,v15,v20,v21,v23,v24,v25,v30,v31,v32,v34,v35,v40,v41,v42,v43,v45,v50,v51,v52,v53,v54]
  have m2:M.get (nx+1+1)=some (bx 35 [.fz 4 w (za8 d)] false 0):=by rw[← hMM];simp-implicitDefEqProofs[go_sem,v01,v02,v03,v04,v05,v10,v12,v13,v14,v15,v20,v21,v23,v24,v25,v30,v31,v32,v34,v35,v40,v41,v42,v43,v45,v50,v51,v52,v53,v54]
  have m3:M.get (nx+1+1+1)=some (bx 30 B false 0):=by rw[← hMM];simp-implicitDefEqProofs[go_sem,v01,v02,v03,v04,v05,v10,v12,v13,v14,v15,v20,v21,v23,v24,v25,v30,v31,v32,v34,v35,v40,v41,v42,v43,v45,v50,v51,v52,v53,v54]
  have m4:M.get (nx+1+1+1+1)=some (bx 28 O.cs false 0):=by rw[← hMM,hOc];simp-implicitDefEqProofs[go_sem,v01,v02,v03,v04,v05,v10,v12,v13,v14,v15,v20,v21,v23,v24,v25,v30,v31,v32,v34,v35,v40,v41,v42,v43,v45,v50,v51,v52,v53,v54,zf5]
  have m5:∃T,M.get (nx+1+1+1+1+1)=some (bx 30 (a.cs++(b.cs++T)) false 0):=by rw[← hMM,Tr.get_put,if_pos rfl,hBB,← hA];exact⟨_,rfl⟩
  have hE:Ext nx h M:=by
   rw[← hMM]
   simp(disch:=omega)only[za6]
   exact Ext.refl _ _
  clear hMM
  obtain⟨T,m5⟩:=m5
  refine Ret.useB zgh hfew rfl (.cons _ _ _ _ (Fz.same _ (by simp[plain,zah,zji])) (.cons _ _ _ _ (zu9 (by omega) m5) .nil)) ?_
  by_cases hq:(∀i (h:i < [a,b].length),zd9 [a,b][i] 40)∧zii d 8
  ·have qa:zd9 a 40:=hq.1 0 (by simp)
   have qb:zd9 b 40:=hq.1 1 (by simp)
   have qd:=hq.2
   obtain⟨sO,sS⟩:=hsz qb qa
   rw[decide_eq_true hq]
   have hD:=znc w a b d (by have:=qa.2.1;omega) (by have:=qb.2.1;omega) (by have:=qd.1;omega) (fun f hf=>by
    obtain⟨i,hi,rfl⟩:=List.getElem_of_mem hf
    have:=qd.2 i hi
    omega) (by have:=qa.1.1;omega) (by have:=qb.1.1;omega) (by obtain⟨_,_,e1,e2,e3⟩:=qa;omega) (by obtain⟨_,_,e1,e2,e3⟩:=qb;omega)
   have hSt2:=zx0 1000000000 O s (by omega) (Nat.le_refl _)
   rw[← hS]at hSt2
   rw[← hA,hBB]at hD
   generalize zc9 a b d=DR at hD hlaw
   obtain⟨k,c,e⟩:=DR
   simp only[DfR.v]at hD hlaw
   simp-implicitDefEqProofs[go_sem,za0,m0,m1,m2,m3,m4,hal,hbl,hAt,hBt]
   refine Ret.use hD ?_
   by_cases he:e=0
   ·obtain⟨l1,l2⟩:=hlaw he
    subst he
    by_cases hk2:k=2
    ·have hs0:=l2.1 hk2
     rw[hs0]at hSt2
     subst hk2
     have k1x:True:=trivial
     have k2x:True:=trivial
     simp-implicitDefEqProofs[go_sem,za0,m0,m1,m2,m3,m4,hal,hbl,hAt,hBt,za3]
     refine zbq mixed za4 zbe [] [12] [] (by kernel_rfl) ?_
     simp-implicitDefEqProofs[go_sem,za0,m0,m1,m2,m3,m4,hal,hbl,hAt,hBt,za3,hsl,hSt,hso,k1x,k2x]
     refine zbm hSt2 ?_
     simp-implicitDefEqProofs[go_sem,za0,zas,m0,m1,m2,m3,m4,hal,hbl,hAt,hBt,za3,hsl,hSt,hso,k1x,k2x]
     refine hf _ _ ?_
     simp(disch:=omega)only[za6]
     exact hE
    ·have hs0:zaw O s=true:=by
      cases hh:zaw O s with
      |true=>rfl
      |false=>exact absurd (l2.2 hh) hk2
     rw[hs0]at hSt2
     have k1x:¬k=1:=l1
     have k2x:¬k=2:=hk2
     simp-implicitDefEqProofs[go_sem,za0,m0,m1,m2,m3,m4,hal,hbl,hAt,hBt,za3,l1,hk2]
     refine zbq mixed za4 zbe [] [12] [] (by kernel_rfl) ?_
     simp-implicitDefEqProofs[go_sem,za0,m0,m1,m2,m3,m4,hal,hbl,hAt,hBt,za3,hsl,hSt,hso,k1x,k2x]
     refine zbm hSt2 ?_
     simp-implicitDefEqProofs[go_sem,za0,zas,m0,m1,m2,m3,m4,hal,hbl,hAt,hBt,za3,hsl,hSt,hso,k1x,k2x]
     refine hf _ _ ?_
     simp(disch:=omega)only[za6]
     exact hE
   ·simp-implicitDefEqProofs[go_sem,za0,m0,m1,m2,m3,m4,hal,hbl,hAt,hBt,za3,he]
    refine hf _ _ ?_
    simp(disch:=omega)only[za6]
    exact hE
  ·rw[decide_eq_false hq]
   simp-implicitDefEqProofs[go_sem,za0]
   exact hf _ _ hE
 ·simp-implicitDefEqProofs[go_sem,hal,hao,hsl,hso,hAt,hSt,hb1,hb2,hb3,hs1,hs2,hs3,hr,v01,v02,v03,v04,v05,v10,v12,v13,v14,v15,v20,v21,v23,v24,v25,v30,v31,v32,v34,v35,v40,v41,v42,v43,v45,v50,v51,v52,v53,v54]
  have hlaw:=zws a s 2 d
  obtain⟨b,hb⟩:∃b,b=zdx a s 2:=⟨_,rfl⟩
  rw[← hb]at hlaw ⊢
  obtain⟨O,hO⟩:∃O,O=zf5 a 2:=⟨_,rfl⟩
  have hOc:O.cs=(zf5 a 2).cs:=by rw[hO]
  rw[← hO]at hlaw
  have hsO:b.begin_=b.begin_:=rfl
  have hbl:=b.cs_len
  have hbo:=zih b
  have hsz:zd9 b 40→zd9 a 40→O.size≤40∧s.size≤40:=fun q1 q2=>by
   rw[hb]at q1
   rw[hO]
   obtain⟨_,_,e1,e2,e3⟩:=q1
   obtain⟨_,_,f1,f2,f3⟩:=q2
   exact⟨f3,e3⟩
  have hfew:=zu2 w false d [a,b] (by simp)
  generalize hBB:b.cs=B at hbl hbo ⊢
  have hBt:B.take 23=B:=List.take_of_length_le (by omega)
  simp-implicitDefEqProofs[go_sem,hal,hao,hsl,hso,hAt,hSt,hbl,hbo,hBt,za3,hr,v01,v02,v03,v04,v05,v10,v12,v13,v14,v15,v20,v21,v23,v24,v25,v30,v31,v32,v34,v35,v40,v41,v42,v43,v45,v50,v51,v52,v53,v54]
  generalize hMM:Tr.put _ (nx+1+1+1+1+1) (some (bx 30 (A++_) false 0))=M
  have m0:M.get nx=some (bx 30 A false 0):=by rw[← hMM];simp-implicitDefEqProofs[go_sem,v01,v02,v03,v04,v05,v10,v12,v13,v14,v15,v20,v21,v23,v24,v25,v30,v31,v32,v34,v35,v40,v41,v42,v43,v45,v50,v51,v52,v53,v54]
  have m1:M.get (nx+1)=some (bx 28 S false 0):=by rw[← hMM];simp-implicitDefEqProofs[go_sem,v01,v02,v03,v04,v05,v10,v12,v13,v14,v15,v20,v21,v23,v24,v25,v30,v31,v32,v34,v35,v40,v41,v42,v43,v45,v50,v51,v52,v53,v54]
  have m2:M.get (nx+1+1)=some (bx 35 [.fz 4 w (za8 d)] false 0):=by rw[← hMM];simp-implicitDefEqProofs[go_sem,v01,v02,v03,v04,v05,v10,v12,v13,v14,v15,v20,v21,v23,v24,v25,v30,v31,v32,v34,v35,v40,v41,v42,v43,v45,v50,v51,v52,v53,v54]
  have m3:M.get (nx+1+1+1)=some (bx 30 B false 0):=by rw[← hMM];simp-implicitDefEqProofs[go_sem,v01,v02,v03,v04,v05,v10,v12,v13,v14,v15,v20,v21,v23,v24,v25,v30,v31,v32,v34,v35,v40,v41,v42,v43,v45,v50,v51,v52,v53,v54]
  have m4:M.get (nx+1+1+1+1)=some (bx 28 O.cs false 0):=by rw[← hMM,hOc];simp-implicitDefEqProofs[go_sem,v01,v02,v03,v04,v05,v10,v12,v13,v14,v15,v20,v21,v23,v24,v25,v30,v31,v32,v34,v35,v40,v41,v42,v43,v45,v50,v51,v52,v53,v54,zf5]
  have m5:∃T,M.get (nx+1+1+1+1+1)=some (bx 30 (a.cs++(b.cs++T)) false 0):=by rw[← hMM,Tr.get_put,if_pos rfl,hBB,← hA];exact⟨_,rfl⟩
  have hE:Ext nx h M:=by
   rw[← hMM]
   simp(disch:=omega)only[za6]
   exact Ext.refl _ _
  clear hMM
  obtain⟨T,m5⟩:=m5
  refine Ret.useB zgh hfew rfl (.cons _ _ _ _ (Fz.same _ (by simp[plain,zah,zji])) (.cons _ _ _ _ (zu9 (by omega) m5) .nil)) ?_
  by_cases hq:(∀i (h:i < [a,b].length),zd9 [a,b][i] 40)∧zii d 8
  ·have qa:zd9 a 40:=hq.1 0 (by simp)
   have qb:zd9 b 40:=hq.1 1 (by simp)
   have qd:=hq.2
   obtain⟨sO,sS⟩:=hsz qb qa
   rw[decide_eq_true hq]
   have hD:=znc w a b d (by have:=qa.2.1;omega) (by have:=qb.2.1;omega) (by have:=qd.1;omega) (fun f hf=>by
    obtain⟨i,hi,rfl⟩:=List.getElem_of_mem hf
    have:=qd.2 i hi
    omega) (by have:=qa.1.1;omega) (by have:=qb.1.1;omega) (by obtain⟨_,_,e1,e2,e3⟩:=qa;omega) (by obtain⟨_,_,e1,e2,e3⟩:=qb;omega)
   have hSt2:=zx0 1000000000 O s (by omega) (Nat.le_refl _)
   rw[← hS]at hSt2
   rw[← hA,hBB]at hD
   generalize zc9 a b d=DR at hD hlaw
   obtain⟨k,c,e⟩:=DR
   simp only[DfR.v]at hD hlaw
   simp-implicitDefEqProofs[go_sem,za0,m0,m1,m2,m3,m4,hal,hbl,hAt,hBt]
   refine Ret.use hD ?_
   by_cases he:e=0
   ·obtain⟨l1,l2⟩:=hlaw he
    subst he
    by_cases hk2:k=2
    ·have hs0:=l2.1 hk2
     rw[hs0]at hSt2
     subst hk2
     have k1x:True:=trivial
     have k2x:True:=trivial
     simp-implicitDefEqProofs[go_sem,za0,m0,m1,m2,m3,m4,hal,hbl,hAt,hBt,za3]
     refine zbq mixed za4 zbe [] [12] [] (by kernel_rfl) ?_
     simp-implicitDefEqProofs[go_sem,za0,m0,m1,m2,m3,m4,hal,hbl,hAt,hBt,za3,hsl,hSt,hso,k1x,k2x]
     refine zbm hSt2 ?_
     simp-implicitDefEqProofs[go_sem,za0,zas,m0,m1,m2,m3,m4,hal,hbl,hAt,hBt,za3,hsl,hSt,hso,k1x,k2x]
     refine hf _ _ ?_
     simp(disch:=omega)only[za6]
     exact hE
    ·have hs0:zaw O s=true:=by
      cases hh:zaw O s with
      |true=>rfl
      |false=>exact absurd (l2.2 hh) hk2
     rw[hs0]at hSt2
     have k1x:¬k=1:=l1
     have k2x:¬k=2:=hk2
     simp-implicitDefEqProofs[go_sem,za0,m0,m1,m2,m3,m4,hal,hbl,hAt,hBt,za3,l1,hk2]
     refine zbq mixed za4 zbe [] [12] [] (by kernel_rfl) ?_
     simp-implicitDefEqProofs[go_sem,za0,m0,m1,m2,m3,m4,hal,hbl,hAt,hBt,za3,hsl,hSt,hso,k1x,k2x]
     refine zbm hSt2 ?_
     simp-implicitDefEqProofs[go_sem,za0,zas,m0,m1,m2,m3,m4,hal,hbl,hAt,hBt,za3,hsl,hSt,hso,k1x,k2x]
     refine hf _ _ ?_
     simp(disch:=omega)only[za6]
     exact hE
   ·simp-implicitDefEqProofs[go_sem,za0,m0,m1,m2,m3,m4,hal,hbl,hAt,hBt,za3,he]
    refine hf _ _ ?_
    simp(disch:=omega)only[za6]
    exact hE
  ·rw[decide_eq_false hq]
   simp-implicitDefEqProofs[go_sem,za0]
   exact hf _ _ hE
theorem zS2 (a:Pv):a.cs[0]?=some (.bs a.id)∧a.cs[1]?=some (.int .i64 a.rank)∧a.cs[2]?=some (.int .i64 a.kind)∧a.cs[3]?=some (.bs a.name)∧a.cs[4]?=some (.int .i64 a.value)∧a.cs[10]?=some (.fz 1 false (zaj a.except)):=by
 rcases a with⟨id,rank,kind,name,value,⟨w1,w2,w3,w4,w5⟩,ex,⟨b1,b2,b3,b4⟩,⟨e1,e2,e3,e4⟩,⟨g1,g2,g3,g4⟩⟩
 exact⟨rfl,rfl,rfl,rfl,rfl,rfl⟩
theorem zqs {v u:AV}(h:Wk v u)(m:List AV):∀l:List AV,WkL (l++v::m) (l++u::m)
 |[]=>.cons _ _ _ _ h (WkL.refl m)
 |x::l=>.cons _ _ _ _ (.same x) (zqs h m l)
theorem zPl:cx.ft.get 27=some Tryz.f27:=za9 (by decide) (by kernel_rfl)
theorem ft8:cx.ft.get 8=some Tryz.f8:=za9 (by decide) (by kernel_rfl)
def zlm:Stt:=.mk 0 .empty 0 []
def zcn:ByteArray:=⟨#[97,103,101]⟩
def wT (c n:Int):Fm:=.mk 3 zcn c n []
def pvT (w:Fm) (v:Int):Pv:=⟨⟨#[112]⟩,2,2,⟨#[113]⟩,v,w,[],zlm,zlm,zlm⟩
theorem zr1 (c n:Int):Ret Tryz.prog cx 27 [.int .i64 c,.int .i64 n] (.agg (pvT (wT c n) 0).cs):=by
 refine Ret.mkW fun h nx R hR=>zaa (sz:=9) (rs:=[.cell 4 30]) za4 zPl rfl rfl rfl (by simp) ?_
 simp-implicitDefEqProofs[go_sem,za3]
 refine hR _ _ _ _ ?_ (Fz.same _ (by simp[plain,zah])) (.agg _ _ ?_)
 ·simp(disch:=omega)only[za6]
  exact Ext.refl _ _
 ·simp only[Pv.cs,pvT,wT,Fm.cs,Stt.cs,zlm,zat,zda,zaj,List.map_nil,List.cons_append,List.nil_append]
  repeat' first
   |exact .nil
   |exact .cons _ _ _ _ (.sl0 _ _) ?_
   |refine .cons _ _ _ _ (.sl0 _ _) ?_
   |refine .cons _ _ _ _ (.same _) ?_
   |rfl
def d0:List Fc:=[⟨zcn,2,0,150⟩]
def zc4:ByteArray:=⟨#[112,111,111,114]⟩
def zmd:Fm:=.mk 4 zc4 0 0 []
def lT (v op:Int)(nm:ByteArray) (c n:Int)(k:AV):List AV:=[.bs ⟨#[112]⟩,.int .i64 2,.int .i64 2,.bs ⟨#[113]⟩,.int .i64 v,.int .i64 op,.bs nm,.int .i64 c,.int .i64 n,k,.fz 1 false [],.int .i64 0,.bs .empty,.int .i64 0,.fz 4 false [],.int .i64 0,.bs .empty,.int .i64 0,.fz 4 false [],.int .i64 0,.bs .empty,.int .i64 0,.fz 4 false []]
theorem yef (v op:Int)(nm:ByteArray) (c n:Int)(l:List Fm):(pvT (.mk op nm c n l) v).cs=lT v op nm c n (.fz 5 false (zat l)):=rfl
theorem FyL.get {g:Tr ABlk}{F:Nat→Prop}:∀{l m:List AV},FyL g F l m→∀(k:Nat)(v:AV),l[k]?=some v→∃u,m[k]?=some u∧Fy g F v u
 |_,_,.nil,k,v,h=>by simp at h
 |_,_,.cons a b _ _ h1 h2,0,v,h=>by simp at h;subst h;exact⟨b,rfl,h1⟩
 |_,_,.cons a b _ _ h1 h2,k+1,v,h=>by simpa using FyL.get h2 k v (by simpa using h)
theorem FyL.len {g:Tr ABlk}{F:Nat→Prop}:∀{l m:List AV},FyL g F l m→m.length=l.length
 |_,_,.nil=>rfl
 |_,_,.cons _ _ _ _ _ h=>by simp[FyL.len h]
theorem zwg {g:Tr ABlk}{F:Nat→Prop}{t:TypeId}{l m:List AV}{opn:Bool}{esz:Nat}(h:FyL g F l m):FyB g F (bx t l opn esz) (bx t m opn esz):=by
 unfold bx
 rw[h.len]
 refine .cells _ _ _ _ _ _ fun k hk v hv=>?_
 rw[zbt]at hv ⊢
 exact h.get k v hv
theorem zue {g:Tr ABlk}{F:Nat→Prop}(v op:Int)(nm:ByteArray) (c n:Int){k k':AV}(h:Fy g F k k'):FyL g F (lT v op nm c n k) (lT v op nm c n k'):=
 FyL.appd (.cons _ _ _ _ h (FyL.same _)) [.bs ⟨#[112]⟩,.int .i64 2,.int .i64 2,.bs ⟨#[113]⟩,.int .i64 v,.int .i64 op,.bs nm,.int .i64 c,.int .i64 n]
theorem zJ5 {g:Tr ABlk}{F:Nat→Prop}{b:Nat}{c:List AV}(hF:F b)(hc:c.length=5)(hg:g.get b=some (bx 24 c false 0)):Fy g F (.sl b 0 1 1 false) (.fz 5 false [.agg c]):=
 .slz b 0 1 1 false 24 _ _ false 0 5 c c [.agg c] hF hg (by simp) (fun j hj=>by rw[Nat.zero_add,zbt]) (FyL.same _) ⟨c,[],by simp,rfl,hc,.inl rfl,rfl⟩ rfl
theorem zHx {g:Tr ABlk}{F:Nat→Prop}{b:Nat}{c e:List AV}(hF:F b)(hc:c.length=5)(he:e.length=5)(hg:g.get b=some (bx 24 (c++e) false 0)):Fy g F (.sl b 0 2 2 false) (.fz 5 false [.agg c,.agg e]):=
 .slz b 0 2 2 false 24 _ _ false 0 5 (c++e) (c++e) [.agg c,.agg e] hF hg (by simp) (fun j hj=>by rw[Nat.zero_add,zbt]) (FyL.same _) ⟨c,e,rfl,rfl,hc,.inl rfl,e,[],by simp,rfl,he,.inl rfl,rfl⟩ rfl
def p1:Pv:=pvT (wT 6 18) 0
def p2:Pv:=pvT (wT 5 18) 0
def p4:Pv:=pvT (.mk 5 .empty 0 0 [wT 3 18]) 0
def p6:Pv:=pvT zmd 0
def p7:Pv:=pvT (.mk 7 .empty 0 0 [zmd,wT 3 5]) 0
def p8:Pv:=pvT (wT 6 18) 5
theorem zBa:∀f∈d0,f.name.size≤1000000000:=by
 intro f hf
 simp[d0]at hf
 subst hf
 decide
theorem zrp (f f':Fm) (v v':Int)(h1:f.size≤1000000)(h2:f'.size≤1000000):Ret Tryz.prog cx 12 [.agg (pvT f v).cs,.agg (pvT f' v').cs,.agg [.fz 4 false (za8 d0)]] (zc9 (pvT f v) (pvT f' v') d0).v:=
 znc false _ _ d0 h1 h2 (by decide) zBa (by simp[pvT]) (by simp[pvT]) (by simp[pvT,zlm,Stt.size,zbr]) (by simp[pvT,zlm,Stt.size,zbr])
def zkm:List AV:=[.agg [.int .i64 4,.bs zc4,.int .i64 0,.int .i64 0,.sl0],.agg [.int .i64 3,.bs zcn,.int .i64 3,.int .i64 5,.fz 5 false []]]
def znr:List AV:=[.int .i64 2,.bs ⟨#[112,49]⟩,.bs .empty,.bs .empty,.bs ⟨#[97,99,116,32,112,49,58,32,97,110,115,119,101,114,32,116,97,120,32,105,115,32,53,32,105,102,32,97,103,101,32,62,32,49,55,46]⟩,.bs ⟨#[119,104,101,114,101,32,123,32,97,103,101,32,49,56,32,108,101,97,115,116,32,125,32,113,117,101,115,116,105,111,110,32,116,97,120,32,103,105,118,101,115,32,53,32,91,115,116,97,116,117,116,101,32,112,49,93]⟩,.bool false]
theorem wk6:Wk (.agg (lT 0 4 zc4 0 0 .sl0)) (.agg p6.cs):=
 .agg _ _ (zqs (.sl0 5 false) _ [.bs ⟨#[112]⟩,.int .i64 2,.int .i64 2,.bs ⟨#[113]⟩,.int .i64 0,.int .i64 4,.bs zc4,.int .i64 0,.int .i64 0])
theorem wk7:Wk (.agg (lT 0 7 .empty 0 0 (.fz 5 false zkm))) (.agg p7.cs):=
 .agg _ _ (zqs (.fz 5 _ _ false (.cons _ _ _ _ (.agg _ _ (zqs (.sl0 5 false) _ [.int .i64 4,.bs zc4,.int .i64 0,.int .i64 0])) (WkL.refl _))) _ [.bs ⟨#[112]⟩,.int .i64 2,.int .i64 2,.bs ⟨#[113]⟩,.int .i64 0,.int .i64 7,.bs .empty,.int .i64 0,.int .i64 0])
theorem nxV (nx:Nat):(¬nx=nx+1)∧(¬nx=nx+1+1)∧(¬nx=nx+1+1+1)∧(¬nx=nx+1+1+1+1)∧(¬nx=nx+1+1+1+1+1)∧(¬nx=nx+1+1+1+1+1+1)∧(¬nx=nx+1+1+1+1+1+1+1)∧(¬nx=nx+1+1+1+1+1+1+1+1)∧(¬nx=nx+1+1+1+1+1+1+1+1+1)∧(¬nx+1=nx)∧(¬nx+1+1=nx)∧(¬nx+1+1+1=nx)∧(¬nx+1+1+1+1=nx)∧(¬nx+1+1+1+1+1=nx)∧(¬nx+1+1+1+1+1+1=nx)∧(¬nx+1+1+1+1+1+1+1=nx)∧(¬nx+1+1+1+1+1+1+1+1=nx)∧(¬nx+1+1+1+1+1+1+1+1+1=nx):=by
 repeat' apply And.intro
 all_goals omega
set_option maxHeartbeats 4000000 in
theorem zGl (e1:zc9 p1 p4 d0=⟨0,[],0⟩)(e2:zc9 p1 p2 d0=⟨3,[18],0⟩)(e3:zc9 p7 p6 d0=⟨3,[0,0],0⟩)(e4:zc9 p1 p8 d0=⟨1,[],0⟩)(pa:Pv)(h4:pa.value=5)(h7:pa.cs[7]?=some (.int .i64 5))(hArt:Ret Tryz.prog cx 16 [.agg znr,.agg [.fz 4 false (za8 d0)]] (.tup [.agg pa.cs,.agg [.int .i64 0,.fz 1 false []],.int .i64 0])):Ret Tryz.prog cx 8 [] (.bool true):=by
 refine Ret.mk fun h nx R hR=>za7.ofLe fun hG=>zaa (sz:=146) (rs:=[.tmp 0]) za4 ft8 rfl rfl rfl (by simp) ?_
 have hf:∀g ny,Ext nx h g→R (.bool true) g ny:=fun g ny he=>hR _ _ _ he (Fz.eq rfl rfl)
 clear hR
 have V:=nxV nx
 have t1:=zr1 6 18
 have t2:=zr1 5 18
 have t3:=zr1 3 18
 have t5:=zr1 3 5
 simp only[wT,yef,zat,lT,zcn]at t1 t2 t3 t5
 simp-implicitDefEqProofs[go_sem,za3]
 refine Ret.use t1 ?_
 simp-implicitDefEqProofs[go_sem,za0,lT,za3,V]
 refine Ret.use t2 ?_
 simp-implicitDefEqProofs[go_sem,za0,lT,za3,V]
 refine Ret.use t3 ?_
 simp-implicitDefEqProofs[go_sem,za0,lT,za3,V]
 refine Ret.use t5 ?_
 simp-implicitDefEqProofs[go_sem,za0,lT,za3,V]
 refine Ret.use t5 ?_
 simp-implicitDefEqProofs[go_sem,za0,lT,za3,V]
 generalize hM:Tr.put _ (nx+1+1+1+1+1+1+1+1+1) _=M
 have q1:M.get (nx+1)=some (bx 35 [.sl nx 0 1 1 false] false 0):=by rw[← hM];simp-implicitDefEqProofs[go_sem,lT,zcn,zc4,za3,V]
 have q0:M.get (nx)=some (bx 65 [.bs zcn,.int .i64 2,.int .i64 0,.int .i64 150] false 0):=by rw[← hM];simp-implicitDefEqProofs[go_sem,lT,zcn,zc4,za3,V]
 have q2:M.get (nx+1+1)=some (bx 30 (lT 0 3 zcn 6 18 (.fz 5 false [])) false 0):=by rw[← hM];simp-implicitDefEqProofs[go_sem,lT,zcn,zc4,za3,V]
 have q3:M.get (nx+1+1+1)=some (bx 30 (lT 0 3 zcn 5 18 (.fz 5 false [])) false 0):=by rw[← hM];simp-implicitDefEqProofs[go_sem,lT,zcn,zc4,za3,V]
 have q4:M.get (nx+1+1+1+1)=some (bx 30 (lT 0 5 .empty 0 0 (.sl (nx+1+1+1+1+1) 0 1 1 false)) false 0):=by rw[← hM];simp-implicitDefEqProofs[go_sem,lT,zcn,zc4,za3,V]
 have q5:M.get (nx+1+1+1+1+1)=some (bx 24 [.int .i64 3,.bs zcn,.int .i64 3,.int .i64 18,.fz 5 false []] false 0):=by rw[← hM];simp-implicitDefEqProofs[go_sem,lT,zcn,zc4,za3,V]
 have q6:M.get (nx+1+1+1+1+1+1)=some (bx 30 (lT 0 4 zc4 0 0 .sl0) false 0):=by rw[← hM];simp-implicitDefEqProofs[go_sem,lT,zcn,zc4,za3,V]
 have q7:M.get (nx+1+1+1+1+1+1+1)=some (bx 30 (lT 0 7 .empty 0 0 (.sl (nx+1+1+1+1+1+1+1+1) 0 2 2 false)) false 0):=by rw[← hM];simp-implicitDefEqProofs[go_sem,lT,zcn,zc4,za3,V]
 have q8:M.get (nx+1+1+1+1+1+1+1+1)=some (bx 24 [.int .i64 4,.bs zc4,.int .i64 0,.int .i64 0,.sl0,.int .i64 3,.bs zcn,.int .i64 3,.int .i64 5,.fz 5 false []] false 0):=by rw[← hM];simp-implicitDefEqProofs[go_sem,lT,zcn,zc4,za3,V]
 have q9:M.get (nx+1+1+1+1+1+1+1+1+1)=some (bx 30 (lT 5 3 zcn 6 18 (.fz 5 false [])) false 0):=by rw[← hM];simp-implicitDefEqProofs[go_sem,lT,zcn,zc4,za3,V]
 have hE:Ext nx h M:=by
  rw[← hM]
  simp(disch:=omega)only[za6]
  exact Ext.refl _ _
 clear hM
 have y0:Fy M (fun a=>a∈[nx,(nx+1+1+1+1+1),(nx+1+1+1+1+1+1+1+1)]) (.sl nx 0 1 1 false) (.fz 4 false (za8 d0)):=zAm (s:=d0) (by simp) q0
 have y5:Fy M (fun a=>a∈[nx,(nx+1+1+1+1+1),(nx+1+1+1+1+1+1+1+1)]) (.sl (nx+1+1+1+1+1) 0 1 1 false) (.fz 5 false (zat [wT 3 18])):=zJ5 (by simp) rfl q5
 have y8:Fy M (fun a=>a∈[nx,(nx+1+1+1+1+1),(nx+1+1+1+1+1+1+1+1)]) (.sl (nx+1+1+1+1+1+1+1+1) 0 2 2 false) (.fz 5 false zkm):=zHx (c:=[.int .i64 4,.bs zc4,.int .i64 0,.int .i64 0,.sl0]) (e:=[.int .i64 3,.bs zcn,.int .i64 3,.int .i64 5,.fz 5 false []]) (by simp) rfl rfl q8
 obtain⟨g,hg⟩:∃g,g=(((zdd M [nx,(nx+1+1+1+1+1),(nx+1+1+1+1+1+1+1+1)]).put (nx+1) (some (bx 35 [.fz 4 false (za8 d0)] false 0))).put (nx+1+1+1+1) (some (bx 30 (lT 0 5 .empty 0 0 (.fz 5 false (zat [wT 3 18]))) false 0))).put (nx+1+1+1+1+1+1+1) (some (bx 30 (lT 0 7 .empty 0 0 (.fz 5 false zkm)) false 0)):=⟨_,rfl⟩
 have hFH:FyH M (fun a=>a∈[nx,(nx+1+1+1+1+1),(nx+1+1+1+1+1+1+1+1)]) g:=by
  rw[hg]
  refine FyH.put (FyH.put (FyH.put (FyH.kill _) (by simp[V]) q1 (zwg (.cons _ _ _ _ y0 .nil))) (by simp[V]) q4 (zwg (zue _ _ _ _ _ y5))) (by simp[V]) q7 (zwg (zue _ _ _ _ _ y8))
 change za7 Tryz.prog cx 12 [.agg (lT 0 3 zcn 6 18 (.fz 5 false [])),.agg (lT 0 5 .empty 0 0 (.sl (nx+1+1+1+1+1) 0 1 1 false)),.agg [.sl nx 0 1 1 false]] M _ _
 refine zng (fun a=>a∈[nx,(nx+1+1+1+1+1),(nx+1+1+1+1+1+1+1+1)]) hFH (.cons _ _ _ _ (.same _) (.cons _ _ _ _ (.agg _ _ (zue _ _ _ _ _ y5)) (.cons _ _ _ _ (.agg _ _ (.cons _ _ _ _ y0 .nil)) .nil))) ?_
 have s1:g.get (nx+1)=some (bx 35 [.fz 4 false (za8 d0)] false 0):=by rw[hg];simp[Tr.get_put,V]
 have s2:g.get (nx+1+1)=some (bx 30 p1.cs false 0):=by rw[hg];simp[Tr.get_put,zjg,q2,V];rfl
 have s3:g.get (nx+1+1+1)=some (bx 30 p2.cs false 0):=by rw[hg];simp[Tr.get_put,zjg,q3,V];rfl
 have s4:g.get (nx+1+1+1+1)=some (bx 30 p4.cs false 0):=by rw[hg];simp[Tr.get_put,V];rfl
 have s6:g.get (nx+1+1+1+1+1+1)=some (bx 30 (lT 0 4 zc4 0 0 .sl0) false 0):=by rw[hg];simp[Tr.get_put,zjg,q6,V]
 have s7:g.get (nx+1+1+1+1+1+1+1)=some (bx 30 (lT 0 7 .empty 0 0 (.fz 5 false zkm)) false 0):=by rw[hg];simp[Tr.get_put,V]
 have s9:g.get (nx+1+1+1+1+1+1+1+1+1)=some (bx 30 p8.cs false 0):=by rw[hg];simp[Tr.get_put,zjg,q9,V];rfl
 have hE9:Ext nx h g:=by
  intro k hk
  have:=hE k hk
  rw[hg]
  simp[Tr.get_put,zjg,show ¬k=nx by omega,show ¬k=(nx+1) by omega,show ¬k=(nx+1+1+1+1) by omega,show ¬k=(nx+1+1+1+1+1) by omega,show ¬k=(nx+1+1+1+1+1+1+1) by omega,show ¬k=(nx+1+1+1+1+1+1+1+1) by omega]
  exact this
 clear hg hFH y0 y5 y8 q0 q1 q2 q3 q4 q5 q6 q7 q8 q9 hE t1 t2 t3 t5
 have hD1:=zrp (wT 6 18) (.mk 5 .empty 0 0 [wT 3 18]) 0 0 (by simp[wT,Fm.size,zae]) (by simp[wT,Fm.size,zae])
 have hD2:=zrp (wT 6 18) (wT 5 18) 0 0 (by simp[wT,Fm.size,zae]) (by simp[wT,Fm.size,zae])
 have hD3:=zrp (.mk 7 .empty 0 0 [zmd,wT 3 5]) zmd 0 0 (by simp[wT,zmd,Fm.size,zae]) (by simp[wT,zmd,Fm.size,zae])
 have hD4:=zrp (wT 6 18) (wT 6 18) 0 5 (by simp[wT,Fm.size,zae]) (by simp[wT,Fm.size,zae])
 change Ret _ _ _ _ (zc9 p1 p4 d0).v at hD1
 change Ret _ _ _ _ (zc9 p1 p2 d0).v at hD2
 change Ret _ _ _ _ (zc9 p7 p6 d0).v at hD3
 change Ret _ _ _ _ (zc9 p1 p8 d0).v at hD4
 rw[e1]at hD1
 rw[e2]at hD2
 rw[e3]at hD3
 rw[e4]at hD4
 obtain⟨n10,hn⟩:∃n10,n10=nx+1+1+1+1+1+1+1+1+1+1:=⟨_,rfl⟩
 rw[← hn]
 have w00:¬nx=n10:=by omega
 have w01:¬nx=n10+1:=by omega
 have w02:¬nx=n10+1+1:=by omega
 have w03:¬nx=n10+1+1+1:=by omega
 have w04:¬nx=n10+1+1+1+1:=by omega
 have w05:¬nx=n10+1+1+1+1+1:=by omega
 have w06:¬nx=n10+1+1+1+1+1+1:=by omega
 have w10:¬nx+1=n10:=by omega
 have w11:¬nx+1=n10+1:=by omega
 have w12:¬nx+1=n10+1+1:=by omega
 have w13:¬nx+1=n10+1+1+1:=by omega
 have w14:¬nx+1=n10+1+1+1+1:=by omega
 have w15:¬nx+1=n10+1+1+1+1+1:=by omega
 have w16:¬nx+1=n10+1+1+1+1+1+1:=by omega
 have w20:¬nx+1+1=n10:=by omega
 have w21:¬nx+1+1=n10+1:=by omega
 have w22:¬nx+1+1=n10+1+1:=by omega
 have w23:¬nx+1+1=n10+1+1+1:=by omega
 have w24:¬nx+1+1=n10+1+1+1+1:=by omega
 have w25:¬nx+1+1=n10+1+1+1+1+1:=by omega
 have w26:¬nx+1+1=n10+1+1+1+1+1+1:=by omega
 have w30:¬nx+1+1+1=n10:=by omega
 have w31:¬nx+1+1+1=n10+1:=by omega
 have w32:¬nx+1+1+1=n10+1+1:=by omega
 have w33:¬nx+1+1+1=n10+1+1+1:=by omega
 have w34:¬nx+1+1+1=n10+1+1+1+1:=by omega
 have w35:¬nx+1+1+1=n10+1+1+1+1+1:=by omega
 have w36:¬nx+1+1+1=n10+1+1+1+1+1+1:=by omega
 have w40:¬nx+1+1+1+1=n10:=by omega
 have w41:¬nx+1+1+1+1=n10+1:=by omega
 have w42:¬nx+1+1+1+1=n10+1+1:=by omega
 have w43:¬nx+1+1+1+1=n10+1+1+1:=by omega
 have w44:¬nx+1+1+1+1=n10+1+1+1+1:=by omega
 have w45:¬nx+1+1+1+1=n10+1+1+1+1+1:=by omega
 have w46:¬nx+1+1+1+1=n10+1+1+1+1+1+1:=by omega
 have w50:¬nx+1+1+1+1+1=n10:=by omega
 have w51:¬nx+1+1+1+1+1=n10+1:=by omega
 have w52:¬nx+1+1+1+1+1=n10+1+1:=by omega
 have w53:¬nx+1+1+1+1+1=n10+1+1+1:=by omega
 have w54:¬nx+1+1+1+1+1=n10+1+1+1+1:=by omega
 have w55:¬nx+1+1+1+1+1=n10+1+1+1+1+1:=by omega
 have w56:¬nx+1+1+1+1+1=n10+1+1+1+1+1+1:=by omega
 have w60:¬nx+1+1+1+1+1+1=n10:=by omega
 have w61:¬nx+1+1+1+1+1+1=n10+1:=by omega
 have w62:¬nx+1+1+1+1+1+1=n10+1+1:=by omega
 have w63:¬nx+1+1+1+1+1+1=n10+1+1+1:=by omega
 have w64:¬nx+1+1+1+1+1+1=n10+1+1+1+1:=by omega
 have w65:¬nx+1+1+1+1+1+1=n10+1+1+1+1+1:=by omega
 have w66:¬nx+1+1+1+1+1+1=n10+1+1+1+1+1+1:=by omega
 have w70:¬nx+1+1+1+1+1+1+1=n10:=by omega
 have w71:¬nx+1+1+1+1+1+1+1=n10+1:=by omega
 have w72:¬nx+1+1+1+1+1+1+1=n10+1+1:=by omega
 have w73:¬nx+1+1+1+1+1+1+1=n10+1+1+1:=by omega
 have w74:¬nx+1+1+1+1+1+1+1=n10+1+1+1+1:=by omega
 have w75:¬nx+1+1+1+1+1+1+1=n10+1+1+1+1+1:=by omega
 have w76:¬nx+1+1+1+1+1+1+1=n10+1+1+1+1+1+1:=by omega
 have w80:¬nx+1+1+1+1+1+1+1+1=n10:=by omega
 have w81:¬nx+1+1+1+1+1+1+1+1=n10+1:=by omega
 have w82:¬nx+1+1+1+1+1+1+1+1=n10+1+1:=by omega
 have w83:¬nx+1+1+1+1+1+1+1+1=n10+1+1+1:=by omega
 have w84:¬nx+1+1+1+1+1+1+1+1=n10+1+1+1+1:=by omega
 have w85:¬nx+1+1+1+1+1+1+1+1=n10+1+1+1+1+1:=by omega
 have w86:¬nx+1+1+1+1+1+1+1+1=n10+1+1+1+1+1+1:=by omega
 have w90:¬nx+1+1+1+1+1+1+1+1+1=n10:=by omega
 have w91:¬nx+1+1+1+1+1+1+1+1+1=n10+1:=by omega
 have w92:¬nx+1+1+1+1+1+1+1+1+1=n10+1+1:=by omega
 have w93:¬nx+1+1+1+1+1+1+1+1+1=n10+1+1+1:=by omega
 have w94:¬nx+1+1+1+1+1+1+1+1+1=n10+1+1+1+1:=by omega
 have w95:¬nx+1+1+1+1+1+1+1+1+1=n10+1+1+1+1+1:=by omega
 have w96:¬nx+1+1+1+1+1+1+1+1+1=n10+1+1+1+1+1+1:=by omega
 have x01:¬n10=n10+1:=by omega
 have x02:¬n10=n10+1+1:=by omega
 have x03:¬n10=n10+1+1+1:=by omega
 have x04:¬n10=n10+1+1+1+1:=by omega
 have x05:¬n10=n10+1+1+1+1+1:=by omega
 have x06:¬n10=n10+1+1+1+1+1+1:=by omega
 have x10:¬n10+1=n10:=by omega
 have x12:¬n10+1=n10+1+1:=by omega
 have x13:¬n10+1=n10+1+1+1:=by omega
 have x14:¬n10+1=n10+1+1+1+1:=by omega
 have x15:¬n10+1=n10+1+1+1+1+1:=by omega
 have x16:¬n10+1=n10+1+1+1+1+1+1:=by omega
 have x20:¬n10+1+1=n10:=by omega
 have x21:¬n10+1+1=n10+1:=by omega
 have x23:¬n10+1+1=n10+1+1+1:=by omega
 have x24:¬n10+1+1=n10+1+1+1+1:=by omega
 have x25:¬n10+1+1=n10+1+1+1+1+1:=by omega
 have x26:¬n10+1+1=n10+1+1+1+1+1+1:=by omega
 have x30:¬n10+1+1+1=n10:=by omega
 have x31:¬n10+1+1+1=n10+1:=by omega
 have x32:¬n10+1+1+1=n10+1+1:=by omega
 have x34:¬n10+1+1+1=n10+1+1+1+1:=by omega
 have x35:¬n10+1+1+1=n10+1+1+1+1+1:=by omega
 have x36:¬n10+1+1+1=n10+1+1+1+1+1+1:=by omega
 have x40:¬n10+1+1+1+1=n10:=by omega
 have x41:¬n10+1+1+1+1=n10+1:=by omega
 have x42:¬n10+1+1+1+1=n10+1+1:=by omega
 have x43:¬n10+1+1+1+1=n10+1+1+1:=by omega
 have x45:¬n10+1+1+1+1=n10+1+1+1+1+1:=by omega
 have x46:¬n10+1+1+1+1=n10+1+1+1+1+1+1:=by omega
 have x50:¬n10+1+1+1+1+1=n10:=by omega
 have x51:¬n10+1+1+1+1+1=n10+1:=by omega
 have x52:¬n10+1+1+1+1+1=n10+1+1:=by omega
 have x53:¬n10+1+1+1+1+1=n10+1+1+1:=by omega
 have x54:¬n10+1+1+1+1+1=n10+1+1+1+1:=by omega
 have x56:¬n10+1+1+1+1+1=n10+1+1+1+1+1+1:=by omega
 have x60:¬n10+1+1+1+1+1+1=n10:=by omega
 have x61:¬n10+1+1+1+1+1+1=n10+1:=by omega
 have x62:¬n10+1+1+1+1+1+1=n10+1+1:=by omega
 have x63:¬n10+1+1+1+1+1+1=n10+1+1+1:=by omega
 have x64:¬n10+1+1+1+1+1+1=n10+1+1+1+1:=by omega
 have x65:¬n10+1+1+1+1+1+1=n10+1+1+1+1+1:=by omega
 have a1:=p1.cs_len
 have a2:=p2.cs_len
 have a4:=p4.cs_len
 have a8:=p8.cs_len
 have a6:(lT 0 4 zc4 0 0 .sl0).length=23:=rfl
 have a7:(lT 0 7 .empty 0 0 (.fz 5 false zkm)).length=23:=rfl
 have b1:p1.cs.take 23=p1.cs:=List.take_of_length_le (by omega)
 have b2:p2.cs.take 23=p2.cs:=List.take_of_length_le (by omega)
 have b4:p4.cs.take 23=p4.cs:=List.take_of_length_le (by omega)
 have b8:p8.cs.take 23=p8.cs:=List.take_of_length_le (by omega)
 have b6:(lT 0 4 zc4 0 0 .sl0).take 23=lT 0 4 zc4 0 0 .sl0:=List.take_of_length_le (by omega)
 have b7:(lT 0 7 .empty 0 0 (.fz 5 false zkm)).take 23=lT 0 7 .empty 0 0 (.fz 5 false zkm):=List.take_of_length_le (by omega)
 refine Ret.use hD1 ?_
 simp-implicitDefEqProofs[go_sem,za0,DfR.v,za3,s1,s2,s3,s4,s6,s7,s9,a1,a2,a4,a6,a7,a8,b1,b2,b4,b6,b7,b8,w00,w01,w02,w03,w04,w05,w06,w10,w11,w12,w13,w14,w15,w16,w20,w21,w22,w23,w24,w25,w26,w30,w31,w32,w33,w34,w35,w36,w40,w41,w42,w43,w44,w45,w46,w50,w51,w52,w53,w54,w55,w56,w60,w61,w62,w63,w64,w65,w66,w70,w71,w72,w73,w74,w75,w76,w80,w81,w82,w83,w84,w85,w86,w90,w91,w92,w93,w94,w95,w96,x01,x02,x03,x04,x05,x06,x10,x12,x13,x14,x15,x16,x20,x21,x23,x24,x25,x26,x30,x31,x32,x34,x35,x36,x40,x41,x42,x43,x45,x46,x50,x51,x52,x53,x54,x56,x60,x61,x62,x63,x64,x65]
 refine Ret.use hD2 ?_
 simp-implicitDefEqProofs[go_sem,za0,DfR.v,za3,s1,s2,s3,s4,s6,s7,s9,a1,a2,a4,a6,a7,a8,b1,b2,b4,b6,b7,b8,w00,w01,w02,w03,w04,w05,w06,w10,w11,w12,w13,w14,w15,w16,w20,w21,w22,w23,w24,w25,w26,w30,w31,w32,w33,w34,w35,w36,w40,w41,w42,w43,w44,w45,w46,w50,w51,w52,w53,w54,w55,w56,w60,w61,w62,w63,w64,w65,w66,w70,w71,w72,w73,w74,w75,w76,w80,w81,w82,w83,w84,w85,w86,w90,w91,w92,w93,w94,w95,w96,x01,x02,x03,x04,x05,x06,x10,x12,x13,x14,x15,x16,x20,x21,x23,x24,x25,x26,x30,x31,x32,x34,x35,x36,x40,x41,x42,x43,x45,x46,x50,x51,x52,x53,x54,x56,x60,x61,x62,x63,x64,x65]
 refine za7.wk (.cons _ _ _ _ wk7 (.cons _ _ _ _ wk6 (WkL.refl _))) ?_
 refine Ret.use hD3 ?_
 simp-implicitDefEqProofs[go_sem,za0,DfR.v,za3,s1,s2,s3,s4,s6,s7,s9,a1,a2,a4,a6,a7,a8,b1,b2,b4,b6,b7,b8,w00,w01,w02,w03,w04,w05,w06,w10,w11,w12,w13,w14,w15,w16,w20,w21,w22,w23,w24,w25,w26,w30,w31,w32,w33,w34,w35,w36,w40,w41,w42,w43,w44,w45,w46,w50,w51,w52,w53,w54,w55,w56,w60,w61,w62,w63,w64,w65,w66,w70,w71,w72,w73,w74,w75,w76,w80,w81,w82,w83,w84,w85,w86,w90,w91,w92,w93,w94,w95,w96,x01,x02,x03,x04,x05,x06,x10,x12,x13,x14,x15,x16,x20,x21,x23,x24,x25,x26,x30,x31,x32,x34,x35,x36,x40,x41,x42,x43,x45,x46,x50,x51,x52,x53,x54,x56,x60,x61,x62,x63,x64,x65]
 refine Ret.use hD4 ?_
 simp-implicitDefEqProofs[go_sem,za0,DfR.v,za3,s1,s2,s3,s4,s6,s7,s9,a1,a2,a4,a6,a7,a8,b1,b2,b4,b6,b7,b8,w00,w01,w02,w03,w04,w05,w06,w10,w11,w12,w13,w14,w15,w16,w20,w21,w22,w23,w24,w25,w26,w30,w31,w32,w33,w34,w35,w36,w40,w41,w42,w43,w44,w45,w46,w50,w51,w52,w53,w54,w55,w56,w60,w61,w62,w63,w64,w65,w66,w70,w71,w72,w73,w74,w75,w76,w80,w81,w82,w83,w84,w85,w86,w90,w91,w92,w93,w94,w95,w96,x01,x02,x03,x04,x05,x06,x10,x12,x13,x14,x15,x16,x20,x21,x23,x24,x25,x26,x30,x31,x32,x34,x35,x36,x40,x41,x42,x43,x45,x46,x50,x51,x52,x53,x54,x56,x60,x61,x62,x63,x64,x65]
 have hQ1:=zEi false false [18] [18] (by decide)
 have hQ2:=zEi false false [0,0] [0,0] (by decide)
 rw[decide_eq_true rfl]at hQ1 hQ2
 refine Ret.useB zgh hQ1 rfl (.cons _ _ _ _ (Fz.same _ rfl) (.cons _ _ _ _ (fzI (s:=[18]) (b:=n10+1+1+1+1) (opn:=false) (esz:=0) (by omega) (by rw[Tr.get_put,if_pos rfl];rfl)) .nil)) ?_
 simp-implicitDefEqProofs[go_sem,za0,DfR.v,za3,s1,s2,s3,s4,s6,s7,s9,a1,a2,a4,a6,a7,a8,b1,b2,b4,b6,b7,b8,w00,w01,w02,w03,w04,w05,w06,w10,w11,w12,w13,w14,w15,w16,w20,w21,w22,w23,w24,w25,w26,w30,w31,w32,w33,w34,w35,w36,w40,w41,w42,w43,w44,w45,w46,w50,w51,w52,w53,w54,w55,w56,w60,w61,w62,w63,w64,w65,w66,w70,w71,w72,w73,w74,w75,w76,w80,w81,w82,w83,w84,w85,w86,w90,w91,w92,w93,w94,w95,w96,x01,x02,x03,x04,x05,x06,x10,x12,x13,x14,x15,x16,x20,x21,x23,x24,x25,x26,x30,x31,x32,x34,x35,x36,x40,x41,x42,x43,x45,x46,x50,x51,x52,x53,x54,x56,x60,x61,x62,x63,x64,x65]
 refine Ret.useB zgh hQ2 rfl (.cons _ _ _ _ (Fz.same _ rfl) (.cons _ _ _ _ (fzI (s:=[0,0]) (b:=n10+1+1+1+1+1) (opn:=false) (esz:=0) (by omega) (by rw[Tr.get_put,if_pos rfl];rfl)) .nil)) ?_
 simp-implicitDefEqProofs[go_sem,za0,DfR.v,za3,s1,s2,s3,s4,s6,s7,s9,a1,a2,a4,a6,a7,a8,b1,b2,b4,b6,b7,b8,w00,w01,w02,w03,w04,w05,w06,w10,w11,w12,w13,w14,w15,w16,w20,w21,w22,w23,w24,w25,w26,w30,w31,w32,w33,w34,w35,w36,w40,w41,w42,w43,w44,w45,w46,w50,w51,w52,w53,w54,w55,w56,w60,w61,w62,w63,w64,w65,w66,w70,w71,w72,w73,w74,w75,w76,w80,w81,w82,w83,w84,w85,w86,w90,w91,w92,w93,w94,w95,w96,x01,x02,x03,x04,x05,x06,x10,x12,x13,x14,x15,x16,x20,x21,x23,x24,x25,x26,x30,x31,x32,x34,x35,x36,x40,x41,x42,x43,x45,x46,x50,x51,x52,x53,x54,x56,x60,x61,x62,x63,x64,x65]
 change za7 Tryz.prog cx 16 [.agg znr,.agg [.fz 4 false (za8 d0)]] _ _ _
 refine Ret.use hArt ?_
 have a9:=pa.cs_len
 have ao9:=zih pa
 have b9:pa.cs.take 23=pa.cs:=List.take_of_length_le (by omega)
 obtain⟨_,_,_,_,f4,_⟩:=zS2 pa
 rw[h4]at f4
 have d4:pa.cs[4]'(by omega)=.int .i64 5:=by rw[List.getElem_eq_iff];exact f4
 have d7:pa.cs[7]'(by omega)=.int .i64 5:=by rw[List.getElem_eq_iff];exact h7
 simp-implicitDefEqProofs[go_sem,za0,a9,ao9,b9,d4,d7,DfR.v,za3,s1,s2,s3,s4,s6,s7,s9,a1,a2,a4,a6,a7,a8,b1,b2,b4,b6,b7,b8,w00,w01,w02,w03,w04,w05,w06,w10,w11,w12,w13,w14,w15,w16,w20,w21,w22,w23,w24,w25,w26,w30,w31,w32,w33,w34,w35,w36,w40,w41,w42,w43,w44,w45,w46,w50,w51,w52,w53,w54,w55,w56,w60,w61,w62,w63,w64,w65,w66,w70,w71,w72,w73,w74,w75,w76,w80,w81,w82,w83,w84,w85,w86,w90,w91,w92,w93,w94,w95,w96,x01,x02,x03,x04,x05,x06,x10,x12,x13,x14,x15,x16,x20,x21,x23,x24,x25,x26,x30,x31,x32,x34,x35,x36,x40,x41,x42,x43,x45,x46,x50,x51,x52,x53,x54,x56,x60,x61,x62,x63,x64,x65]
 refine hf _ _ ?_
 simp(disch:=omega)only[za6]
 exact hE9
end
end Go.Ev
namespace Go.Ev
open Go.Proofs Go.RowKit
noncomputable section
theorem zyr:zn2 zcn:=by
 refine⟨?_,by intro h;exact absurd (congrArg ByteArray.size h) (by decide),by decide⟩
 intro i h
 have h3:i<3:=h
 rcases (by omega:i=0∨i=1∨i=2) with rfl |rfl |rfl
 ·show zdw 0 97;simp[zdw]
 ·show zdw 1 103;simp[zdw]
 ·show zdw 2 101;simp[zdw]
theorem zf1:zc5 d0=true:=by
 refine zu3 ⟨⟨?_,?_⟩,by decide⟩
 ·intro f hf
  simp[d0]at hf
  subst hf
  exact⟨.inr ⟨.inl rfl,by decide,by decide,by decide⟩,zqw zyr⟩
 ·simp[d0]
theorem zQy:zc9 p1 p8 d0=⟨1,[],0⟩:=by
 have hc1:zeu d0 p1.when_=0:=by kernel_rfl
 have hc8:zeu d0 p8.when_=0:=by kernel_rfl
 have hm:zgg d0 (zc6 p1.when_++zc6 p8.when_) [] d0=some d0:=by kernel_rfl
 unfold zc9
 rw[if_neg (by rw[zf1];simp),if_neg (by rw[hc1];simp),if_neg (by rw[hc8];simp),hm]
 show zhj p1 p8 d0=_
 unfold zhj
 rw[if_neg (by decide),if_pos]
 intro h
 exact absurd h.2.2.2.2.1 (by decide)
end
end Go.Ev
