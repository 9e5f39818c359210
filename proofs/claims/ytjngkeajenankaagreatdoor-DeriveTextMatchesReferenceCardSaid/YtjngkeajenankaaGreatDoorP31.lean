/- Texts X4 M4. -/
import Derived.Test.YtjngkeajenankaaGreatDoorLays
import Derived.Test.YtjngkeajenankaaGreatDoorP30
set_option linter.unusedSimpArgs false
set_option linter.unusedVariables false
set_option maxRecDepth 100000
namespace Go.Ev
open Go.Proofs Go.RowKit
noncomputable section
attribute [-go_sem] pPick lookRes evConvS evStrB tt241 tt239 tt237
theorem AW_he {P:Program}{c:Cx}{inr:Bool}{sz:Nat}{code:Code}{Q:AX→AS→Prop}{tm:Tr AV}{h h':Tr ABlk}{nx:Nat}{ds:List DE}(he:HE h h')(hw:AW P c inr sz code Q (.mk tm h' nx ds)):AW P c inr sz code Q (.mk tm h nx ds):=by
 intro r hi σ a w ok st
 simp only[AS.h,AS.nx,AS.tm,AS.ds]at ok st
 have p:=Post.ofHe ok he
 exact wpIn_mono (hw r hi _ a w p.ok st) fun e a' w' q=>AQ.trans p q
theorem ft412:cx.ft.get 412=some Tryz.f412:=cxS_ft (by decide) (by kernel_rfl)
theorem ft414:cx.ft.get 414=some Tryz.f414:=cxS_ft (by decide) (by kernel_rfl)
theorem ft18:cx.ft.get 18=some Tryz.f18:=cxS_ft (by decide) (by kernel_rfl)
theorem count_c (s:ByteArray)(b:UInt8):Ret Tryz.prog cx 414 [.bs s,.bs ⟨#[b]⟩] (.int .i64 (Lib.countByte s.data.toList b:Nat)):=by
 refine Ret.mk fun h nx R hR=>ACall_mk (sz:=34) (rs:=[.tmp 4]) cxok ft414 rfl rfl rfl (by simp) ?_
 have z1:(ByteArray.mk #[b]).size=1:=rfl
 have z2:∀hx,(ByteArray.mk #[b])[0]'hx=b:=fun _=>rfl
 simp[go_sem,z1,z2]
 generalize hf:416=f
 refine Ret.use (countB_c s b f hf.symm) ?_
 simp[go_sem,goOn_some]
 exact hR _ _ _ (Ext.refl _ _) (Fz.eq rfl rfl)
theorem qL_count:∀l:List UInt8,(l.flatMap qB).length=l.length+(Lib.countByte l 10+Lib.countByte l 34+Lib.countByte l 92)
 |[]=>rfl
 |x::l=>by
  have ih:=qL_count l
  unfold Lib.countByte at ih ⊢
  simp only[List.flatMap_cons,List.length_append,List.length_cons,List.count_cons,ih]
  by_cases c1:x=10
  ·subst c1
   simp[qB]
   omega
  ·by_cases c2:x=34
   ·subst c2
    simp[qB]
    omega
   ·by_cases c3:x=92
    ·subst c3
     simp[qB]
     omega
    ·simp[qB,c1,c2,c3]
     omega
theorem qB_pos (x:UInt8):1≤(qB x).length:=by
 unfold qB
 repeat' split
 all_goals simp
theorem qL_ge:∀l:List UInt8,l.length≤(l.flatMap qB).length
 |[]=>by simp
 |x::l=>by
  have h1:=qB_pos x
  have h2:=qL_ge l
  simp only[List.flatMap_cons,List.length_append,List.length_cons]
  omega
theorem qL_same:∀l:List UInt8,(l.flatMap qB).length=l.length→l.flatMap qB=l
 |[],_=>rfl
 |x::l,h=>by
  have h1:=qB_pos x
  have h2:=qL_ge l
  simp only[List.flatMap_cons,List.length_append,List.length_cons]at h ⊢
  rw[qL_same l (by omega)]
  have h3:(qB x).length=1:=by omega
  unfold qB at h3 ⊢
  split at h3
  ·cases h3
  ·rename_i c1
   split at h3
   ·cases h3
   ·rename_i c2
    rw[if_neg c1,if_neg c2]
    rfl
def repS (s:ByteArray):ByteArray:=⟨(s.data.toList.flatMap qB).toArray⟩
def chg (s:ByteArray) (k:Nat):Nat:=((s.data.toList.take k).flatMap qB).length
theorem chg_zero (s:ByteArray):chg s 0=0:=rfl
theorem take_succB (s:ByteArray) (k:Nat)(hk:k<s.size):s.data.toList.take (k+1)=s.data.toList.take k++[s[k]]:=by
 have:k<s.data.toList.length:=by simpa using hk
 rw[List.take_succ_eq_append_getElem this]
 rfl
theorem chg_succ (s:ByteArray) (k:Nat)(hk:k<s.size):chg s (k+1)=chg s k+(qB s[k]).length:=by
 unfold chg
 rw[take_succB s k hk,List.flatMap_append]
 simp
theorem chg_ge (s:ByteArray) (k:Nat)(hk:k≤s.size):k≤chg s k:=by
 have:=qL_ge (s.data.toList.take k)
 rw[List.length_take]at this
 have h2:s.data.toList.length=s.size:=by simp
 unfold chg
 omega
theorem chg_le (s:ByteArray) (k:Nat)(hk:k≤s.size):chg s k≤2 * k:=by
 have:=qL_len (s.data.toList.take k)
 rw[List.length_take]at this
 have h2:s.data.toList.length=s.size:=by simp
 unfold chg
 omega
theorem chg_all (s:ByteArray):chg s s.size=(s.data.toList.flatMap qB).length:=by
 unfold chg
 rw[List.take_of_length_le (by simp)]
theorem chg_rest (s:ByteArray) (k:Nat):chg s s.size=chg s k+((s.data.toList.drop k).flatMap qB).length:=by
 rw[chg_all]
 unfold chg
 rw[← List.length_append,← List.flatMap_append,List.take_append_drop]
section
variable (e : TypeId) (size b : Nat) (z : Option AV) (fs : List (Nat × Nat × Bool)) (h : Tr ABlk) (nx : Nat)
@[go_sem] theorem evLoad_rp (n:Nat)(hn:n<256):evLoad (.mk (.slice e) size b z fs) (.ip (repC.drop n)) h nx=.val (repF n) h nx:=by
 have h1:n<repC.length:=by unfold repC;rw[rpL_len];omega
 have e1:repC[n]=repF n:=rpL_at repF repT n h1 hn
 rw[List.drop_eq_getElem_cons h1,evLoad_ip_slice,e1]
@[go_sem] theorem evLoad_rpT:evLoad (.mk (.slice e) size b z fs) (.ip (repC.drop 256)) h nx=.val repT h nx:=by
 have h1:256<repC.length:=by unfold repC;rw[rpL_len];omega
 have e1:repC[256]=repT:=rpL_last repF repT h1
 rw[List.drop_eq_getElem_cons h1,evLoad_ip_slice,e1]
end
def cnS (s:ByteArray) (k:Nat):Nat:=if k=0 then 0 else if k=1 then Lib.countByte s.data.toList 10 else if k=2 then Lib.countByte s.data.toList 10+Lib.countByte s.data.toList 34 else Lib.countByte s.data.toList 10+Lib.countByte s.data.toList 34+Lib.countByte s.data.toList 92
theorem cnS_le (s:ByteArray) (k:Nat):cnS s k≤3 * s.size:=by
 have h1:∀b:UInt8,Lib.countByte s.data.toList b≤s.size:=fun b=>by
  have h1:s.data.toList.count b≤s.data.toList.length:=List.count_le_length
  have h2:s.data.toList.length=s.size:=by simp
  unfold Lib.countByte
  omega
 have h10:=h1 10
 have h34:=h1 34
 have h92:=h1 92
 unfold cnS
 repeat' split
 all_goals omega
theorem repF_ten:repF 10=.fz 1 false (encY [92,110]):=rfl
theorem repF_q:repF 34=.fz 1 false (encY [92,34]):=rfl
theorem repF_b:repF 92=.fz 1 false (encY [92,92]):=rfl
theorem repF_no (n:Nat)(h1:n≠10)(h2:n≠34)(h3:n≠92):repF n=.sl0:=by unfold repF;rw[if_neg h3,if_neg h2,if_neg h1]
section
variable (e : TypeId) (size b : Nat) (z : Option AV) (x : Nat) (s : Nat) (y : Bool) (fs : List (Nat × Nat × Bool)) (k : IntKind) (cs : List AV) (n0 : Nat) (h : Tr ABlk) (nx : Nat)
@[go_sem] theorem ia_arp10 (hn:10<n0):evIndexAddr (.mk (.array n0 e) size b z ((x,s,y)::fs)) (.ip cs) (.int k 10) h nx=.val (.ip (cs.drop (10 * s))) h nx:=evIndexAddr_arr_ip n0 e size b z x s y fs cs k 10 h nx hn
@[go_sem] theorem ia_arp34 (hn:34<n0):evIndexAddr (.mk (.array n0 e) size b z ((x,s,y)::fs)) (.ip cs) (.int k 34) h nx=.val (.ip (cs.drop (34 * s))) h nx:=evIndexAddr_arr_ip n0 e size b z x s y fs cs k 34 h nx hn
@[go_sem] theorem ia_arp92 (hn:92<n0):evIndexAddr (.mk (.array n0 e) size b z ((x,s,y)::fs)) (.ip cs) (.int k 92) h nx=.val (.ip (cs.drop (92 * s))) h nx:=evIndexAddr_arr_ip n0 e size b z x s y fs cs k 92 h nx hn
end
def copyB (B:Option ABlk) (i o:Nat)(l:List AV) (m:Nat)(h:Tr ABlk) (nx:Nat):R:=match B with
 |some (.cells e' n c opn esz)=>match Nat.ble (Nat.add o l.length) n with
  |true=>.val (.int .i64 (m:Int)) (h.put i (some (.cells e' n (putN l c o) opn esz))) nx
  |false=>.fail
 |_=>.fail
@[go_sem] theorem evCopy_two (e a1 a2 b2:Nat)(a3 b3:Option AV)(a4 b4:List (Nat×Nat×Bool))(d2:TypeDesc) (i o len cp:Nat)(opn full:Bool)(k k':IntKind) (x y:Int)(h:Tr ABlk) (nx:Nat)(hl:2≤len):
  evCopy (.mk (.slice e) a1 a2 a3 a4) (some (.mk d2 1 b2 b3 b4)) e (.sl i o len cp opn) (.fz 1 full [.int k x,.int k' y]) h nx=copyB (h.get i) i o [.int k x,.int k' y] 2 h nx:=by
 have e1:Nat.min 2 len=2:=Nat.min_eq_left hl
 have e2:srcN 1 2 (.fz 1 full [.int k x,.int k' y]) h=some [.int k x,.int k' y]:=rfl
 have e3:allOne [.int k x,.int k' y]=true:=rfl
 have e4:lenA (.fz 1 full [.int k x,.int k' y])=some 2:=rfl
 simp only[evCopy,Nat.beq_refl,e4,e1,e2,e3]
 unfold copyB
 cases h.get i with
 |none=>rfl
 |some B=>
  cases B <;> try rfl
  rename_i e' n c opn' esz
  show (match Nat.ble (Nat.add o 2) n with |true=>_ |false=>_)=(match Nat.ble (Nat.add o 2) n with |true=>_ |false=>_)
  cases Nat.ble (Nat.add o 2) n
  ·rfl
  ·simp only[putNK_eq,Tr.putK_eq,vInt_eq]
@[go_sem] theorem bCopy_eq (c:Cx)(t u:TypeId)(a b:AV)(h:Tr ABlk) (nx:Nat):bCopy c (List.toArray [t,u]) [a,b] h nx=bR (c.tt.get t) fun ti=>evCopy ti (c.tt.get (elemT ti)) (elemT ti) a b h nx:=rfl
@[go_sem] theorem copyB_bx (t:TypeId)(L l:List AV)(opn:Bool) (esz i o m:Nat)(h:Tr ABlk) (nx:Nat)(hl:o+l.length≤L.length):copyB (some (bx t L opn esz)) i o l m h nx=.val (.int .i64 (m:Int)) (h.put i (some (.cells t L.length (putN l (putN L .nil 0) o) opn esz))) nx:=by
 have e1:Nat.ble (Nat.add o l.length) L.length=true:=Nat.ble_eq_true_of_le hl
 simp only[copyB,bx,e1]
def rowQ (s:ByteArray) (k:Nat):List AV:=encY ((s.data.toList.take k).flatMap qB)++List.replicate (chg s s.size-chg s k) (.int .u8 0)
theorem chg_mono (s:ByteArray) (k:Nat):chg s k≤chg s s.size:=by rw[chg_rest s k];omega
theorem rowQ_len (s:ByteArray) (k:Nat):(rowQ s k).length=chg s s.size:=by
 have:=chg_mono s k
 unfold rowQ
 rw[List.length_append,encY_len,List.length_replicate]
 unfold chg at *
 omega
theorem rowQ_zero (s:ByteArray) (i:Nat)(hi:i<chg s s.size):(repL [AV.int .u8 0] (chg s s.size))[i]?=(rowQ s 0)[i]?:=by
 rw[repL_get _ _ _ (by simpa using hi)]
 unfold rowQ
 simp[chg_zero,encY,hi,Nat.mod_one]
theorem rowQ_succ (s:ByteArray) (k:Nat)(hk:k<s.size) (i:Nat):(rowQ s (k+1))[i]?=if chg s k≤i∧i<chg s k+(qB s[k]).length then (encY (qB s[k]))[i-chg s k]? else (rowQ s k)[i]?:=by
 have e1:=take_succB s k hk
 have e2:=chg_succ s k hk
 have e3:=chg_mono s (k+1)
 have e4:(encY ((s.data.toList.take k).flatMap qB)).length=chg s k:=by rw[encY_len];rfl
 unfold rowQ
 rw[e1,List.flatMap_append,encY_app]
 simp only[List.flatMap_cons,List.flatMap_nil,List.append_nil,List.append_assoc]
 by_cases h1:i<chg s k
 ·rw[if_neg (by omega),List.getElem?_append_left (by omega),List.getElem?_append_left (by omega)]
 ·rw[List.getElem?_append_right (by omega),e4]
  by_cases h2:i<chg s k+(qB s[k]).length
  ·rw[if_pos ⟨by omega,h2⟩,List.getElem?_append_left (by rw[encY_len];omega)]
  ·rw[if_neg (by omega),List.getElem?_append_right (by rw[encY_len];omega),List.getElem?_append_right (by omega),e4,encY_len]
   simp only[List.getElem?_replicate]
   split <;> split <;> first |rfl |omega
theorem rowQ_end (s:ByteArray):rowQ s s.size=encY (s.data.toList.flatMap qB):=by
 unfold rowQ
 rw[List.take_of_length_le (by simp)]
 simp
noncomputable def secB:Code→Code
 |.seq _ y=>y
 |c=>c
noncomputable def rest412:Code:=secB (secB (secB (secB (Tryz.f412.body.getD .skip))))
set_option maxHeartbeats 4000000 in
theorem replaceB_c (s:ByteArray)(hs:s.size≤1000000):Ret Tryz.prog cx 412 [.ip repC,.bs s] (.bs (repS s)):=by
 refine Ret.mk fun h nx R hR=>ACall_mk (sz:=122) (rs:=[.tmp 4]) cxok ft412 rfl rfl rfl (by simp) ?_
 have hF:∀b g ny,Ext nx h g→b=repS s→R (.bs b) g ny:=fun z g ny hE e=>hR _ _ _ hE (Fz.eq rfl (by rw[e]))
 have hF':=Lib.hid hF
 clear hF hR
 have key:∀tm,tm.get 0=some (.ip repC)→tm.get 1=some (.bs s)→tm.get 5=some (.int .i64 (chg s s.size:Nat))→tm.get 6=some (.bool (decide (s.size<chg s s.size)))→aw Tryz.prog cx false 122 rest412 (exitP cx [.tmp 4] R) (.mk tm h nx []):=by
  intro tm t0 t1 t5 t6
  have hge:=chg_ge s s.size (Nat.le_refl _)
  have hle:=chg_le s s.size (Nat.le_refl _)
  have hall:=chg_all s
  simp only[rest412,secB,Tryz.f412,Option.getD_some]
  by_cases c:s.size<chg s s.size
  ·have c0:chg s s.size≠0:=by omega
   have cb:chg s s.size≤16777216:=by omega
   simp[go_sem,t0,t1,t5,t6,c,c0,cb]
   refine AW_rounds (fun mm st=>∃tm k g t,st=.mk tm g (nx+1) []∧mm=s.size-k∧k≤s.size∧tm.get 0=some (.ip repC)∧tm.get 1=some (.bs s)∧tm.get 12=some (.sl nx 0 (chg s s.size) (chg s s.size) false)∧tm.get 13=some (.int .i64 (chg s k:Nat))∧tm.get 14=some (.int .i64 (k:Int))∧g.get nx=some (.cells 5 (chg s s.size) t false 0)∧(∀i,i<chg s s.size→t.get i=(rowQ s k)[i]?)∧Ext nx h g) ⟨s.size,_,0,_,putN (repL [AV.int .u8 0] (chg s s.size)) .nil 0,rfl,rfl,by omega,?_⟩ ?_
   ·simp[go_sem,t0,t1]
    refine⟨by rw[chg_zero];rfl,by rw[bx,repL_length];simp,fun i hi=>by rw[get_putN0];exact rowQ_zero s i hi,(ext_put (by omega)).2 (Ext.refl _ _)⟩
   rintro mm st ⟨tm,k,g,t,rfl,rfl,hk,t0,t1,t12,t13,t14,gq,gr,hE⟩ J hJ
   have hln:=rowQ_len s k
   refine AW_he (h':=g.put nx (some (bx 5 (rowQ s k) false 0))) (fun i B e=>?_) (aw_ok cxok _ ?_)
   ·rw[Tr.get_put]at e
    by_cases q:i=nx
    ·subst q
     rw[if_pos rfl]at e
     cases e
     exact⟨_,gq,by rw[bx,hln];exact⟨_,rfl,fun j hj=>by rw[get_putN0,gr j hj]⟩⟩
    ·rw[if_neg q]at e
     exact⟨B,e,BE.refl B⟩
   have hE2:Ext nx h (g.put nx (some (bx 5 (rowQ s k) false 0))):=(ext_put (by omega)).2 hE
   have gq2:(g.put nx (some (bx 5 (rowQ s k) false 0))).get nx=some (bx 5 (rowQ s k) false 0):=by simp[go_sem]
   generalize g.put nx (some (bx 5 (rowQ s k) false 0))=g2 at hE2 gq2
   clear gq gr hE g t
   by_cases k1:k<s.size
   ·have hb:(s[k]).toNat<256:=(s[k]).toNat_lt
    have wI:IntKind.i64.wrap ((k:Int)+1)=(k:Int)+1:=i64wrap _ (by omega) (by omega)
    have e2:=chg_succ s k k1
    have e3:=chg_mono s (k+1)
    have hs2:=rowQ_succ s k k1
    have hgo:∀(tm':Tr AV) (g':Tr ABlk) (t':Tr AV),tm'.get 0=some (.ip repC)→tm'.get 1=some (.bs s)→tm'.get 12=some (.sl nx 0 (chg s s.size) (chg s s.size) false)→tm'.get 13=some (.int .i64 (chg s (k+1):Nat))→tm'.get 14=some (.int .i64 ((k:Int)+1))→g'.get nx=some (.cells 5 (chg s s.size) t' false 0)→(∀i,i<chg s s.size→t'.get i=(rowQ s (k+1))[i]?)→Ext nx h g'→J (.mk tm' g' (nx+1) []):=fun tm' g' t' a0 a1 a12 a13 a14 b1 b2 b3=>
     hJ (s.size-(k+1)) _ (by omega) ⟨tm',k+1,g',t',rfl,rfl,by omega,a0,a1,a12,a13,by rw[a14];rfl,b1,b2,b3⟩
    have hgo':=Lib.hid hgo
    clear hgo hJ hF'
    by_cases x0:s[k]=10∨s[k]=34∨s[k]=92
    ·obtain⟨y,hy,hq⟩:∃y:UInt8,repF (s[k]).toNat=.fz 1 false [.int .u8 92,.int .u8 ((y.toNat:Nat):Int)]∧qB s[k]=[92,y]:=by
      rcases x0 with x |x |x <;> rw[x]
      ·exact⟨110,rfl,rfl⟩
      ·exact⟨34,rfl,rfl⟩
      ·exact⟨92,rfl,rfl⟩
     rw[hq]at e2 hs2
     replace e2:chg s (k+1)=chg s k+2:=e2
     have cl:chg s k≤chg s s.size:=by omega
     have cn:¬chg s s.size=chg s k:=by omega
     have c2:2≤chg s s.size-chg s k:=by omega
     have c3:chg s k+2≤chg s s.size:=by omega
     have wn:IntKind.i64.wrap ((chg s k:Int)+2)=(chg s k:Int)+2:=i64wrap _ (by omega) (by omega)
     simp[go_sem,t0,t1,t12,t13,t14,k1,hb,hy]
     refine AW_draw mixed cxok G0sym [10] [] [(0,10)] (by kernel_rfl) ?_
     simp[go_sem,t0,t1,t12,t13,t14,k1,hb,hy,cl,cn,c2,c3,gq2,hln,wn,wI]
     refine hgo'.out _ _ _ (by simp[go_sem,t0]) (by simp[go_sem,t1]) (by simp[go_sem,t12]) (by simp[go_sem,e2]) (by simp[go_sem]) (by simp[go_sem];rfl) (fun i hi=>?_) ((ext_put (by omega)).2 hE2)
     show (putN [.int .u8 92,.int .u8 ((y.toNat:Nat):Int)] (putN (rowQ s k) .nil 0) (chg s k)).get i=_
     rw[get_putN,hs2 i,get_putN0]
     rfl
    ·have x1:s[k]≠10:=fun q=>x0 (.inl q)
     have x2:s[k]≠34:=fun q=>x0 (.inr (.inl q))
     have x3:s[k]≠92:=fun q=>x0 (.inr (.inr q))
     have u8n:∀y:UInt8,s[k]≠y→(s[k]).toNat≠y.toNat:=fun y e q=>e (UInt8.toNat_inj.1 q)
     have hy:=repF_no _ (u8n 10 x1) (u8n 34 x2) (u8n 92 x3)
     have hq:qB s[k]=[s[k]]:=by unfold qB;rw[if_neg x1,if_neg (by simp[x2,x3])]
     rw[hq]at e2 hs2
     replace e2:chg s (k+1)=chg s k+1:=e2
     have c3:chg s k<chg s s.size:=by omega
     have c4:chg s k+1≤chg s s.size:=by omega
     have wn:IntKind.i64.wrap ((chg s k:Int)+1)=(chg s k:Int)+1:=i64wrap _ (by omega) (by omega)
     clear u8n x0 x1 x2 x3
     simp[go_sem,t0,t1,t12,t13,t14,k1,hb,hy,c3,c4,gq2,hln,wn,wI]
     refine hgo'.out _ _ (putN (segL (rowQ s k) (chg s k) [.int .u8 ((s[k]).toNat:Int)]) .nil 0) (by simp[go_sem,t0]) (by simp[go_sem,t1]) (by simp[go_sem,t12]) (by simp[go_sem,e2]) (by simp[go_sem]) ?_ (fun i hi=>?_) ((ext_put (by omega)).2 hE2)
     ·simp[go_sem]
      rw[bx,segL_length (by rw[hln];exact c4),hln]
     ·rw[get_putN0,get_segL (by rw[hln];exact c4),hs2 i]
      rfl
   ·have e:k=s.size:=by omega
    subst e
    have hby:bytesS (List.take (chg s s.size) (rowQ s s.size))=some (s.data.toList.flatMap qB):=by
     rw[List.take_of_length_le (by omega),rowQ_end,bytesS_Y]
    simp[go_sem,t0,t1,t12,t13,t14,gq2,hln,hby]
    exact hF'.out _ _ _ hE2 rfl
  ·simp[go_sem,t0,t1,t5,t6,c]
   refine hF'.out _ _ _ (Ext.refl _ _) ?_
   unfold repS
   rw[qL_same _ (by rw[← hall];simp;omega)]
 have key':=Lib.hid key
 have lT:(AV.fz 1 false [.bs ⟨#[10]⟩,.bs ⟨#[34]⟩,.bs ⟨#[92]⟩])=repT:=rfl
 have w24:IntKind.i64.wrap 24=24:=rfl
 have w0:IntKind.i64.wrap 0=0:=rfl
 have w1:IntKind.i64.wrap 1=1:=rfl
 have w2:IntKind.i64.wrap 2=2:=rfl
 have w3:IntKind.i64.wrap 3=3:=rfl
 by_cases c1:24≤s.size
 ·have c1I:(24:Int)≤s.size:=by omega
  simp[go_sem,repT,w24,c1I]
  refine AW.mono (Q:=fun k st=>∃tm,k=.exit 0∧st=.mk tm h nx []∧tm.get 0=some (.ip repC)∧tm.get 1=some (.bs s)∧tm.get 5=some (.int .i64 (chg s s.size:Nat))∧tm.get 6=some (.bool (decide (s.size<chg s s.size)))) ?_ (fun k st q=>?_)
  rotate_left
  ·obtain⟨tm,rfl,rfl,t0,t1,t5,t6⟩:=q
   rw[inBlock_exit,if_pos rfl,thenA_norm]
   exact key'.out tm t0 t1 t5 t6
  clear key key' hF'
  refine AW_rounds (fun mm st=>∃tm k N,st=.mk tm h nx []∧mm=3-k∧k≤3∧tm.get 0=some (.ip repC)∧tm.get 1=some (.bs s)∧tm.get 5=some (.int .i64 ((N:Nat):Int))∧tm.get 6=some (.bool (decide (s.size<N)))∧tm.get 30=some (.fz 1 false [.bs ⟨#[10]⟩,.bs ⟨#[34]⟩,.bs ⟨#[92]⟩])∧tm.get 31=some (.int .i64 3)∧tm.get 32=some (.int .i64 (k:Int))∧RowKit.Hid (N=s.size+cnS s k)) ⟨3,_,0,s.size,rfl,rfl,by omega,?_⟩ ?_
  ·simp[go_sem]
   exact Lib.hid rfl
  rintro mm st ⟨tm,k,N,rfl,rfl,hk,t0,t1,t5,t6,t30,t31,t32,hv⟩ J hJ
  refine aw_ok cxok _ ?_
  have hgo:∀(b:UInt8) (tm':Tr AV),k<3→cnS s (k+1)=cnS s k+Lib.countByte s.data.toList b→tm'.get 0=some (.ip repC)→tm'.get 1=some (.bs s)→tm'.get 5=some (.int .i64 ((N+Lib.countByte s.data.toList b:Nat):Int))→tm'.get 6=some (.bool (decide (s.size<N+Lib.countByte s.data.toList b)))→tm'.get 30=some (.fz 1 false [.bs ⟨#[10]⟩,.bs ⟨#[34]⟩,.bs ⟨#[92]⟩])→tm'.get 31=some (.int .i64 3)→tm'.get 32=some (.int .i64 ((k:Int)+1))→J (.mk tm' h nx []):=fun b tm' h1 h2 g0 g1 g5 g6 g30 g31 g32=>
   hJ (3-(k+1)) _ (by omega) ⟨tm',k+1,_,rfl,rfl,by omega,g0,g1,g5,g6,g30,g31,by rw[g32];rfl,Lib.hid (by rw[h2,hv.out];omega)⟩
  have hN:N≤4 * s.size:=by
   have:=hv.out
   have:=cnS_le s k
   omega
  have hge:s.size≤N:=by have:=hv.out;omega
  clear hJ
  have step:∀(b:UInt8) (n:Nat),n=Lib.countByte s.data.toList b→n≤s.size:=fun b n e=>by
   rw[e]
   have h1:s.data.toList.count b≤s.data.toList.length:=List.count_le_length
   have h2:s.data.toList.length=s.size:=by simp
   unfold Lib.countByte
   omega
  rcases (by omega:k=0∨k=1∨k=2∨k=3) with rfl |rfl |rfl |rfl
  ·have hc:=count_c s 10
   have hg:=hgo 10
   clear hgo
   simp at t32
   generalize hn:Lib.countByte s.data.toList 10=n at hc hg
   have hn2:=step _ _ hn.symm
   have wc:IntKind.i64.wrap (n:Int)=n:=i64wrap _ (by omega) (by omega)
   have wn:IntKind.i64.wrap ((N:Int)+n)=(N:Int)+n:=i64wrap _ (by omega) (by omega)
   simp[go_sem,t0,t1,t5,t6,t30,t31,t32]
   refine Ret.use hc ?_
   by_cases c:n=0
   ·subst c
    simp[go_sem,goOn_some,t32,w1,w2,w3]
    refine hg _ (by omega) (by simp[cnS,hn]) (by simp[go_sem,t0]) (by simp[go_sem,t1]) (by simp[go_sem,t5]) (by simp[go_sem,t6]) (by simp[go_sem,t30]) (by simp[go_sem,t31]) (by simp[go_sem])
   ·have cI:¬(n:Int)=0:=by omega
    simp[go_sem,goOn_some,c,cI]
    refine AW_draw mixed cxok G0sym [] [] [] (by kernel_rfl) ?_
    simp[go_sem,t0,t1,t5,t6,t30,t31,t32,repF_ten,w1,w2,w3,wc,wn]
    refine hg _ (by omega) (by simp[cnS,hn]) (by simp[go_sem,t0]) (by simp[go_sem,t1]) (by simp[go_sem]) (by simp[go_sem];omega) (by simp[go_sem,t30]) (by simp[go_sem,t31]) (by simp[go_sem])
  ·have hc:=count_c s 34
   have hg:=hgo 34
   clear hgo
   simp at t32
   generalize hn:Lib.countByte s.data.toList 34=n at hc hg
   have hn2:=step _ _ hn.symm
   have wc:IntKind.i64.wrap (n:Int)=n:=i64wrap _ (by omega) (by omega)
   have wn:IntKind.i64.wrap ((N:Int)+n)=(N:Int)+n:=i64wrap _ (by omega) (by omega)
   simp[go_sem,t0,t1,t5,t6,t30,t31,t32]
   refine Ret.use hc ?_
   by_cases c:n=0
   ·subst c
    simp[go_sem,goOn_some,t32,w1,w2,w3]
    refine hg _ (by omega) (by simp[cnS,hn]) (by simp[go_sem,t0]) (by simp[go_sem,t1]) (by simp[go_sem,t5]) (by simp[go_sem,t6]) (by simp[go_sem,t30]) (by simp[go_sem,t31]) (by simp[go_sem])
   ·have cI:¬(n:Int)=0:=by omega
    simp[go_sem,goOn_some,c,cI]
    refine AW_draw mixed cxok G0sym [] [] [] (by kernel_rfl) ?_
    simp[go_sem,t0,t1,t5,t6,t30,t31,t32,repF_q,w1,w2,w3,wc,wn]
    refine hg _ (by omega) (by simp[cnS,hn]) (by simp[go_sem,t0]) (by simp[go_sem,t1]) (by simp[go_sem]) (by simp[go_sem];omega) (by simp[go_sem,t30]) (by simp[go_sem,t31]) (by simp[go_sem])
  ·have hc:=count_c s 92
   have hg:=hgo 92
   clear hgo
   simp at t32
   generalize hn:Lib.countByte s.data.toList 92=n at hc hg
   have hn2:=step _ _ hn.symm
   have wc:IntKind.i64.wrap (n:Int)=n:=i64wrap _ (by omega) (by omega)
   have wn:IntKind.i64.wrap ((N:Int)+n)=(N:Int)+n:=i64wrap _ (by omega) (by omega)
   simp[go_sem,t0,t1,t5,t6,t30,t31,t32]
   refine Ret.use hc ?_
   by_cases c:n=0
   ·subst c
    simp[go_sem,goOn_some,t32,w1,w2,w3]
    refine hg _ (by omega) (by simp[cnS,hn]) (by simp[go_sem,t0]) (by simp[go_sem,t1]) (by simp[go_sem,t5]) (by simp[go_sem,t6]) (by simp[go_sem,t30]) (by simp[go_sem,t31]) (by simp[go_sem])
   ·have cI:¬(n:Int)=0:=by omega
    simp[go_sem,goOn_some,c,cI]
    refine AW_draw mixed cxok G0sym [] [] [] (by kernel_rfl) ?_
    simp[go_sem,t0,t1,t5,t6,t30,t31,t32,repF_b,w1,w2,w3,wc,wn]
    refine hg _ (by omega) (by simp[cnS,hn]) (by simp[go_sem,t0]) (by simp[go_sem,t1]) (by simp[go_sem]) (by simp[go_sem];omega) (by simp[go_sem,t30]) (by simp[go_sem,t31]) (by simp[go_sem])
  ·simp at t32
   simp[go_sem,t0,t1,t5,t6,t30,t31,t32]
   have e:N=chg s s.size:=by rw[hv.out,chg_all,qL_count];simp[cnS]
   rw[e]
   simp
 ·have c1I:¬(24:Int)≤s.size:=by omega
  simp[go_sem,repT,w24,c1I]
  refine AW.mono (Q:=fun k st=>∃tm,k=.exit 2∧st=.mk tm h nx []∧tm.get 0=some (.ip repC)∧tm.get 1=some (.bs s)∧tm.get 5=some (.int .i64 (chg s s.size:Nat))∧tm.get 6=some (.bool (decide (s.size<chg s s.size)))) ?_ (fun k st q=>?_)
  rotate_left
  ·obtain⟨tm,rfl,rfl,t0,t1,t5,t6⟩:=q
   rw[inBlock_exit,if_pos rfl,thenA_norm]
   exact key'.out tm t0 t1 t5 t6
  clear key key' hF'
  refine AW_rounds (fun mm st=>∃tm k N,st=.mk tm h nx []∧mm=s.size-k∧k≤s.size∧tm.get 0=some (.ip repC)∧tm.get 1=some (.bs s)∧tm.get 5=some (.int .i64 ((N:Nat):Int))∧tm.get 6=some (.bool (decide (s.size<N)))∧tm.get 10=some (.int .i64 (k:Int))∧RowKit.Hid (N+k=s.size+chg s k)) ⟨s.size,_,0,s.size,rfl,rfl,by omega,?_⟩ ?_
  ·simp[go_sem]
   exact Lib.hid rfl
  rintro mm st ⟨tm,k,N,rfl,rfl,hk,t0,t1,t5,t6,t10,hv⟩ J hJ
  refine aw_ok cxok _ ?_
  by_cases c2:k<s.size
  ·have hgo:∀(tm':Tr AV) (d:Nat),(qB s[k]).length=d+1→tm'.get 0=some (.ip repC)→tm'.get 1=some (.bs s)→tm'.get 5=some (.int .i64 ((N+d:Nat):Int))→tm'.get 6=some (.bool (decide (s.size<N+d)))→tm'.get 10=some (.int .i64 ((k:Int)+1))→J (.mk tm' h nx []):=fun tm' d h2 g0 g1 g5 g6 g10=>
    hJ (s.size-(k+1)) _ (by omega) ⟨tm',k+1,_,rfl,rfl,by omega,g0,g1,g5,g6,by rw[g10];rfl,Lib.hid (by rw[chg_succ s k c2,h2];have:=hv.out;omega)⟩
   have hN:N≤4 * s.size:=by
    have:=hv.out
    have:=chg_le s k hk
    omega
   have hge:s.size≤N:=by
    have:=hv.out
    have:=chg_ge s k hk
    omega
   clear hJ
   have hb:(s[k]).toNat<256:=(s[k]).toNat_lt
   have wI:IntKind.i64.wrap ((k:Int)+1)=(k:Int)+1:=i64wrap _ (by omega) (by omega)
   have wn:IntKind.i64.wrap ((N:Int)+1)=(N:Int)+1:=i64wrap _ (by omega) (by omega)
   by_cases x0:s[k]=10∨s[k]=34∨s[k]=92
   ·obtain⟨y,hy⟩:∃y:UInt8,repF (s[k]).toNat=.fz 1 false [.int .u8 92,.int .u8 ((y.toNat:Nat):Int)]:=by
     rcases x0 with x |x |x <;> rw[x]
     ·exact⟨110,rfl⟩
     ·exact⟨34,rfl⟩
     ·exact⟨92,rfl⟩
    have hl:(qB s[k]).length=1+1:=by rcases x0 with x |x |x <;> rw[x] <;> rfl
    have hg:=fun tm'=>hgo tm' 1 hl
    clear hgo hl
    simp[go_sem,t0,t1,t5,t6,t10,c2,hb,hy,w1,wn,wI]
    refine hg _ (by simp[go_sem,t0]) (by simp[go_sem,t1]) (by simp[go_sem]) (by simp[go_sem];omega) (by simp[go_sem])
   ·have x1:s[k]≠10:=fun q=>x0 (.inl q)
    have x2:s[k]≠34:=fun q=>x0 (.inr (.inl q))
    have x3:s[k]≠92:=fun q=>x0 (.inr (.inr q))
    have u8n:∀y:UInt8,s[k]≠y→(s[k]).toNat≠y.toNat:=fun y e q=>e (UInt8.toNat_inj.1 q)
    have hy:=repF_no _ (u8n 10 x1) (u8n 34 x2) (u8n 92 x3)
    have hl:(qB s[k]).length=0+1:=by unfold qB;rw[if_neg x1,if_neg (by simp[x2,x3])];rfl
    have hg:=fun tm'=>hgo tm' 0 hl
    clear hgo u8n x0 x1 x2 x3
    simp[go_sem,t0,t1,t5,t6,t10,c2,hb,hy,w1,wn,wI]
    refine hg _ (by simp[go_sem,t0]) (by simp[go_sem,t1]) (by simp[go_sem,t5]) (by simp[go_sem,t6]) (by simp[go_sem])
  ·simp[go_sem,t0,t1,t5,t6,t10,c2]
   have e:N=chg s s.size:=by
    have h1:=hv.out
    have:k=s.size:=by omega
    subst this
    omega
   rw[e]
   simp
def RpSt (h:Tr ABlk) (a:Nat):Prop:=h.get a=some (rpB 0 0 .nilIface (.fz 1 false (encB six)))∨h.get a=some (rpB 1 0 (.iface 242 (.ip repC)) .sl0)
theorem newRp_c (full:Bool)(h:Tr ABlk) (nx:Nat)(R:AV→Tr ABlk→Nat→Prop)(hR:∀a g ny,nx≤a→a<ny→RpSt g a→(∀k,k<nx→g.get k=h.get k)→R (.ptr a 0) g ny):ACall Tryz.prog cx 17 [.fz 1 full (encB six)] h nx R:=by
 refine ACall.fryR (ACall_mk (sz:=12) (rs:=[.tmp 2]) cxok ft17 rfl rfl rfl (by simp) ?_)
 obtain⟨R',hR'⟩:∃R':AV→Tr ABlk→Nat→Prop,R'=fun v g ny=>∃(F:Nat→Prop) (v':AV) (g':Tr ABlk),FyH g F g'∧Fy g F v v'∧R v' g' ny:=⟨_,rfl⟩
 rw[← hR']
 simp[go_sem,encB,six]
 generalize hM:Tr.put _ (nx+1) _=M
 have m0:M.get nx=some (bx 9 (encB six) true 1):=by rw[← hM];simp[go_sem];rfl
 have m1:M.get (nx+1)=some (rpB 0 0 .nilIface (.sl nx 0 6 0 true)):=by rw[← hM];simp[go_sem];rfl
 have mk:∀k,k<nx→M.get k=h.get k:=fun k hk=>by
  rw[← hM]
  simp only[Tr.get_put,if_neg (show ¬k=nx+1 by omega),if_neg (show ¬k=nx by omega)]
 rw[hR']
 refine⟨fun i=>i∈[nx],.ptr (nx+1) 0,(killL M [nx]).put (nx+1) (some (rpB 0 0 .nilIface (.fz 1 false (encB six)))),FyH.put (FyH.kill [nx]) (by simp) m1 (.cells _ _ _ _ _ _ fun k hk v hv=>?_),.same _,hR _ _ _ (by omega) (by omega) (.inl (by rw[Tr.get_put,if_pos rfl])) fun k hk=>?_⟩
 ·rw[get_putN0]at hv ⊢
  rcases (by simp at hk;omega:k=0∨k=1∨k=2∨k=3∨k=4) with rfl |rfl |rfl |rfl |rfl <;> simp at hv <;> subst hv
  ·exact⟨_,rfl,.same _⟩
  ·exact⟨_,rfl,.same _⟩
  ·exact⟨_,rfl,.same _⟩
  ·exact⟨_,rfl,.same _⟩
  ·exact⟨_,rfl,Fy.row1 (by simp) m0 rfl rfl⟩
 ·rw[Tr.get_put,if_neg (by omega),get_killL,if_neg (by simp;omega)]
  exact mk k hk
theorem methP_of {P:Program}{t:TypeId}{name:String}{f:FuncId}{e:TypeId}(hu:P.underlying t=some (.pointer e))(h:(match P.info? t with
  |some i=>match i.methods.find? (fun m=>m.name == name) with
   |some m=>Nat.beq m.path.size 0 && (match m.func with |some (g,true)=>Nat.beq g f |_=>false)
   |none=>false
  |none=>false)=true):MethP P t name f:=by
 cases h1:P.info? t with
 |none=>rw[h1]at h;cases h
 |some i=>
  rw[h1]at h
  simp only at h
  cases h2:i.methods.find? (fun m=>m.name == name) with
  |none=>rw[h2]at h;cases h
  |some m=>
   rw[h2]at h
   simp only[Bool.and_eq_true]at h
   obtain⟨h3,h4⟩:=h
   have h3:=Array.eq_empty_of_size_eq_zero (Nat.eq_of_beq_eq_true h3)
   refine⟨i,m,e,h1,h2,h3,?_,hu⟩
   cases h5:m.func with
   |none=>rw[h5]at h4;cases h4
   |some p=>
    obtain⟨g,b⟩:=p
    rw[h5]at h4
    cases b with
    |false=>cases h4
    |true=>rw[Nat.eq_of_beq_eq_true h4]
theorem meth242 : MethP Tryz.prog 242 "Replace" 412 := methP_of Tryz.underlying242 (by kernel_rfl)
@[go_sem ↓] theorem awS_inv {P:Program}{c:Cx}{sz:Nat}{ops:List Oper}{dst:Option Tmp}{ty:TypeId}{pos:String}{aft:Array Edge}{K:AS→Prop}{tm:Tr AV}{h:Tr ABlk}{nx:Nat}{ds:List DE}(x:Operand)(name:String)(args:List Operand)(ats:Array TypeId):awS P c sz ops ⟨dst,.call ⟨.invoke x name,args.toArray,ats⟩,ty,pos,aft,none⟩ K (.mk tm h nx ds)=invP P c sz dst tm h nx ds K x name args:=rfl
theorem replace_c (a:Nat)(s:ByteArray)(hs:s.size≤1000000)(h:Tr ABlk) (nx:Nat)(ha:a<nx)(hg:RpSt h a)(R:AV→Tr ABlk→Nat→Prop)(hR:∀g ny,nx≤ny→RpSt g a→(∀k,k<nx→k≠a→g.get k=h.get k)→R (.bs (repS s)) g ny):ACall Tryz.prog cx 18 [.ptr a 0,.bs s] h nx R:=by
 refine ACall_mk (sz:=17) (rs:=[.tmp 4]) cxok ft18 rfl rfl rfl (by simp) ?_
 simp[go_sem]
 refine ACall.mono (R:=fun v g ny=>v=.tup []∧nx≤ny∧g.get a=some (rpB 1 0 (.iface 242 (.ip repC)) .sl0)∧∀k,k<nx→k≠a→g.get k=h.get k) ?_ ?_
 ·rcases hg with hg |hg
  ·refine do_c hg (r':=.iface 242 (.ip repC)) (o':=.sl0) (fun h' S q1 q2 q3=>?_) fun g ny q1 q2 q3=>⟨rfl,q1,q2,q3⟩
   exact buildOnce_c a h' nx ha q1 S fun g ny e1 e2 e3=>q3 g ny e1 e2 fun k k1 k2=>by rw[e3 k k1 k2,q2 k k2]
  ·exact do1_c hg ⟨rfl,Nat.le_refl _,hg,fun k _ _=>rfl⟩
 ·rintro v g ny ⟨rfl,h1,h2,h3⟩
  have h2':=h2
  unfold rpB at h2'
  simp[go_sem,goOn_some,h2']
  refine⟨by decide,by decide,242,.ip repC,412,[.bs s],by simp[go_sem],by simp[go_sem],meth242,Ret.use (replaceB_c s hs) ?_⟩
  simp[go_sem,putS_some]
  exact hR g ny h1 (.inr h2) h3
end
end Go.Ev
namespace Go.Ev
open Go.Proofs Go.RowKit Go.Shelf
noncomputable section
attribute [-go_sem] pPick lookRes evConvS evStrB
theorem ft16:cx.ft.get 16=some Tryz.f16:=cxS_ft (by decide) (by kernel_rfl)
theorem extraJ:Builder.Extra Tryz.prog Tryz.lays156_ren where
 sizeBuilder:=by kernel_rfl
 liesBuilder:=by kernel_rfl
 t5:=Tryz.underlying5
 a5:=Tryz.isAgg5
 z5:=Tryz.sizeOf5
 v5:=Tryz.zeroValue5
 infoByte:=by kernel_rfl
 cellsByte:=by kernel_rfl
 sizeByte:=by kernel_rfl
 neB5:=by decide
theorem join_words:∀l:List ByteArray,Lib.join (l.map (·.data.toList)) [32]=wordsL l
 |[]=>rfl
 |[a]=>by simp[Lib.join_one,wordsL]
 |a::b::l=>by
  have:=join_words (b::l)
  simp only[List.map_cons]at this ⊢
  rw[Lib.join_cons]at this ⊢
  simp only[wordsL]
  rw[← this]
  simp[Lib.joinTail]
theorem ACall_below {P:Program}{c:Cx}(hc:CxOk P c){fid:FuncId}{fn:Func}(hft:c.ft.get fid=some fn){args:List AV}{h:Tr ABlk}{nx:Nat}{R:AV→Tr ABlk→Nat→Prop}
  (hC:∀(σ:Sg) (w:World) (A:List Value),Ok c.G σ h nx w→RelL σ args A→Calls P fid A.toArray w fun e x=>∃V u,e=.returned V∧Rel σ u V∧R u h nx∧Below w.heap.size w x):ACall P c fid args h nx R:=by
 intro σ w A hk hA
 refine CR_calls hc hft ((hC σ w A hk hA).mono fun e x q=>?_)
 obtain⟨V,u,rfl,h1,h2,h3⟩:=q
 exact⟨σ,u,h,nx,h1,Post.same hk h3.os h3.tape h3.output h3.size h3.block,h2⟩
theorem cells_strs {σ:Sg}:∀{l:List ByteArray}{L D:List Value},RelL σ (encB l) L→Rows 1 L D→∀(j:Nat) x,l[j]?=some x→D[j]?=some (.string x)
 |[],L,D,_,_,j,x,h=>by simp at h
 |a::l,L,D,hL,hR,j,x,h=>by
  have hL':RelL σ (.bs a::encB l) L:=hL
  simp only[RelL,Rel]at hL'
  obtain⟨V,L',rfl,rfl,h3⟩:=hL'
  simp only[Rows]at hR
  obtain⟨r1,r2,r3⟩:=hR
  cases j with
  |zero=>
   cases h
   have e:D.take 1=[Value.string a]:=by
    rw[← r1];rfl
   cases D with
   |nil=>cases e
   |cons v D=>simp at e;subst e;rfl
  |succ j=>
   have:=cells_strs h3 r3 j x h
   rw[List.getElem?_drop]at this
   rw[Nat.add_comm]
   exact this
theorem join_c (full:Bool)(l:List ByteArray)(hl:l.length≤1000000000)(hs:sizesL l≤1000000000):Ret Tryz.prog cx 16 [.fz 1 full (encB l),.bs ⟨#[32]⟩] (.bs ⟨(wordsL l).toArray⟩):=by
 refine Ret.mk fun h nx R hR=>ACall_below cxok ft16 fun σ w A hk hA=>?_
 simp only[RelL,Rel]at hA
 obtain⟨V,A1,rfl,⟨a,cap,e0,e1,_,e3,e4⟩,V2,A2,rfl,e5,rfl⟩:=hA
 subst e0
 subst e5
 have hlen:(encB l).length=l.length:=encB_len l
 rw[hlen]
 match l,hl,hs,hR,e1,e4,hlen with
 |[],_,_,hR,_,_,_=>
  refine(Any.strings_Join_none Tryz.lays156 extraJ a cap ⟨#[32]⟩ w).mono fun e x q=>?_
  obtain⟨rfl,rfl⟩:=q
  exact⟨_,.bs ⟨#[]⟩,rfl,by simp only[Rel],hR _ _ _ (Ext.refl _ _) (Fz.eq rfl rfl),Below.refl _ _⟩
 |[y],_,_,hR,e1,e4,_=>
  obtain⟨b,o,C,L,rfl,i1,i2,i3⟩:=e4 (by simp[encB])
  obtain⟨⟨t,fr,hh⟩,_⟩:=hk.imm b C i1
  have hc:w.cell? ⟨b,o,none⟩=some (.string y):=by
   have:=cells_strs i2 i3 0 y rfl
   rw[List.getElem?_drop]at this
   rw[cell_at hh]
   simpa using this
  refine(Any.strings_Join_one Tryz.lays156 extraJ b o cap y ⟨#[32]⟩ w hc).mono fun e x q=>?_
  obtain⟨rfl,rfl⟩:=q
  exact⟨_,.bs y,rfl,by simp only[Rel],hR _ _ _ (Ext.refl _ _) (Fz.eq rfl (by simp[wordsL])),Below.refl _ _⟩
 |y::z::l,hl,hs,hR,e1,e4,hlen=>
  obtain⟨b,o,C,L,rfl,i1,i2,i3⟩:=e4 (by simp[encB])
  obtain⟨⟨t,fr,hh⟩,_⟩:=hk.imm b C i1
  have hj:=join_words (y::z::l)
  have hwl:=wordsL_len (y::z::l)
  refine(Any.strings_Join_many Tryz.lays156 extraJ b o cap (y::z::l) ⟨#[32]⟩ w (fun j x hx=>?_) (lt_of_heap hh) (by simp) (by omega) (by omega) ?_).mono fun e x q=>?_
  ·have:=cells_strs i2 i3 j x hx
   rw[List.getElem?_drop]at this
   rw[cell_at hh]
   simpa using this
  ·rw[show (ByteArray.mk #[32]).data.toList=[32] from rfl,hj]
   omega
  ·obtain⟨rfl,q⟩:=q
   refine⟨_,.bs ⟨(wordsL (y::z::l)).toArray⟩,rfl,?_,hR _ _ _ (Ext.refl _ _) (Fz.eq rfl rfl),q⟩
   simp only[Rel]
   rw[hj]
end
end Go.Ev
