/- Texts S2 S3 W SC KY. -/
import Derived.TacticsIn
import Derived.RangeFuncRecord
import Derived.Test.YtjngkeajenankaaGreatDoorP04
set_option linter.unusedSimpArgs false
set_option linter.unusedVariables false
set_option maxRecDepth 100000
namespace Go.Ev
noncomputable section
variable {P : Program} {G : Gl} {c : Cx} {σ τ υ : Sg} {h g f : Tr ABlk} {nx ny nz : Nat} {w x y : World} {tm : Tr AV} {a : Act}
theorem getN_of {c:Tr AV}:∀{n o:Nat}{l:List AV},l.length=n→(∀k,k<n→c.get (o+k)=l[k]?)→getN c n o=some l
 |0,o,l,e,_=>by
  have:l=[]:=List.eq_nil_of_length_eq_zero e
  subst this;rfl
 |n+1,o,l,e,h=>by
  cases l with
  |nil=>simp at e
  |cons v l=>
   have h0:=h 0 (by omega)
   have ih:=getN_of (c:=c) (n:=n) (o:=o+1) (l:=l) (by simpa using e) fun k hk=>by
    have:=h (k+1) (by omega)
    rw[show o+(k+1)=o+1+k by omega]at this
    simpa using this
   show (match c.get o with
    |some v=>fN (Nat.succ o) fun o'=>(match getN c n o' with |some l=>some (v::l) |none=>none)
    |none=>none)=_
   simp only[Nat.add_zero,List.getElem?_cons_zero]at h0
   rw[h0]
   simp only[fN_eq]
   rw[show Nat.succ o=o+1 from rfl,ih]
theorem SV.he {m:Sem Value}{v:AV}(hs:SV P G σ h nx w m v g ny)(he:HE g f):SV P G σ h nx w m v f ny:=by
 obtain⟨V,τ,x,q1,q2,q3⟩:=hs
 exact⟨V,τ,x,q1,q2,q3.he he⟩
theorem ble_ff {a b:Nat}(h:b<a):Nat.ble a b=false:=by
 cases e:Nat.ble a b with
 |false=>rfl
 |true=>have:=Nat.le_of_ble_eq_true e;omega
set_option maxHeartbeats 8000000 in
theorem run_append_zap (t u ty e:TypeId)(i:TypeInfo)(z:Value)(k:IntKind)(ht:P.underlying t=some (.slice e))(hu:P.underlying u=some (.int k))(hi:P.info? e=some i)(hz:i.zero=some z) (n:Nat)(h1:1≤n)(hs:1≤i.size)(hsm:n * i.bytes≤140737488355328)(h63:n≤16777216):
  (Builtin.append_ #[t,u] ty #[.slice none 0 0,.int .i64 (n:Int)]).run P w=.ok (.slice (some ⟨w.heap.size,0,none⟩) n (grownCap w n 0 e))
   (w.drew.alloc (.cells (Builtin.zeroCells z.cells n++Builtin.zeroCells z.cells (grownCap w n 0 e-n)) e)):=by
 have hfit:=growslice_fits (need:=n) (old:=0) (bytes:=i.bytes) (by omega) hsm
 have hw:IntKind.i64.wrap (n:Int)=n:=by
  have h2:((n:Int)+9223372036854775808) % 18446744073709551616=(n:Int)+9223372036854775808:=Int.emod_eq_of_lt (by omega) (by omega)
  have h3:(n:Int) % 18446744073709551616=n:=Int.emod_eq_of_lt (by omega) (by omega)
  simp[IntKind.wrap,IntKind.bits,IntKind.signed,h3]
  omega
 have hn0:¬((n:Int)<0):=by omega
 have hb:¬(281474976710656<(n:Int) * (i.bytes:Int)):=by
  have:((n * i.bytes:Nat):Int)≤140737488355328:=by omega
  rw[Int.natCast_mul]at this
  omega
 have hnz:¬n=0:=by omega
 have hsz:¬i.size=0:=by omega
 have hns:¬n * i.size=0:=fun q=>by rcases Nat.mul_eq_zero.1 q with q |q <;> omega
 have h63':¬(9223372036854775807<(n:Int)):=by omega
 have h48':¬(281474976710656<Builtin.nextslicecap n 0 * i.bytes):=by omega
 have hai:∀w':World,(asIntOf (.int .i64 (n:Int))).run P w'=.ok (IntKind.i64,(n:Int)) w':=fun _=>rfl
 simp[Builtin.append_,run_underlying ht,run_underlying hu,sizeOf,typeInfo,zeroValue,hi,hz,hai,hw,hn0,hb,hnz,hns,hsz,h63',h48',asInt,Question.forced,Builtin.firstCells,newRow,grownCap]
theorem zap_ok (hk:Ok G σ h nx w)(t u ty:TypeId){q1 q2:Nat}{q3:Option AV}{q4:List (Nat×Nat×Bool)}{du:TypeDesc}{q5 q6:Nat}{q7:Option AV}{q8:List (Nat×Nat×Bool)}{de:TypeDesc}{size bytes:Nat}{zz:AV}{q11:List (Nat×Nat×Bool)}{e et:TypeId}
  (ht:TIok P t (.mk (.slice e) q1 q2 q3 q4)) (htu:TIok P u (.mk du q5 q6 q7 q8)) (hte:TIok P et (.mk de size bytes (some zz) q11)) {s x:AV} {S X:Value} (hs:Rel σ s S) (hx:Rel σ x X):
  RV P G σ h nx w (Builtin.append_ #[t,u] ty #[S,X]) (zapS du e et size bytes s x h nx):=by
 unfold zapS
 cases du <;> try trivial
 rename_i k
 cases s <;> try trivial
 cases x <;> try trivial
 rename_i k2 zx
 cases k2 <;> try trivial
 cases zx <;> try trivial
 rename_i n
 simp only
 cases hb:(Nat.beq e et && Nat.ble bytes 65536 && Nat.ble 1 n && Nat.ble n 16777216 && Nat.ble 1 size) with
 |false=>trivial
 |true=>
 simp only[Bool.and_eq_true]at hb
 obtain⟨⟨⟨⟨b1,b2⟩,b3⟩,b5⟩,b4⟩:=hb
 have b4:1≤size:=Nat.le_of_ble_eq_true b4
 have:=Nat.eq_of_beq_eq_true b1
 subst this
 obtain⟨hu,_⟩:=ht
 obtain⟨huu,_⟩:=htu
 obtain⟨_,inf,hi,hsz,hby,hzz,_⟩:=hte
 obtain⟨Z,hZ,_,hzs⟩:=hzz zz rfl
 have b2':=Nat.le_of_ble_eq_true b2
 have b3':=Nat.le_of_ble_eq_true b3
 have b5':=Nat.le_of_ble_eq_true b5
 simp only[Rel]at hs hx
 subst hs
 subst hx
 have hsm:n * inf.bytes≤140737488355328:=by
  rw[hby]
  have:=Nat.mul_le_mul b5' b2'
  omega
 have hrun:=run_append_zap (P:=P) (w:=w) t u ty e inf Z k hu huu hi hZ n b3' (by omega) hsm b5'
 have hcap:=grownCap_le w n 0 e
 have hd:=Post.drawn hk (w.drawn+1)
 have ha:=Post.alloc hd.ok (grownCap w n 0 e) (bx e [] true size) (.cells (Builtin.zeroCells Z.cells n++Builtin.zeroCells Z.cells (grownCap w n 0 e-n)) e) (by
  simp only[bx,RelB]
  refine⟨_,_,rfl,fun k hk'=>by simp at hk',fun k hk'=>by omega,?_⟩
  simp only[if_true,Array.size_append,size_zeroCells]
  have:(σ.add nx w.heap.size (grownCap w n 0 e)).cap nx=grownCap w n 0 e:=by simp[Sg.add]
  refine⟨by simp,?_⟩
  show _=(σ.add nx w.heap.size (grownCap w n 0 e)).cap nx * size
  rw[this,hzs,← Nat.add_mul]
  congr 1
  omega)
 refine⟨_,_,_,hrun,?_,hd.trans ha⟩
 simp only[Rel,if_true]
 exact⟨w.heap.size,by simp[Sg.add],by simp[Sg.add],by simp[Sg.add];exact hcap⟩
set_option maxHeartbeats 1000000 in
theorem evAppendS_ok (hk:Ok G σ h nx w)(t u ty:TypeId){ti tu:TI}(ht:TIok P t ti)(htu:TIok P u tu){te:Option TI}{et:TypeId}(hte:∀ti,te=some ti→TIok P et ti){s x:AV}{S X:Value}(hs:Rel σ s S)(hx:Rel σ x X):
  RV P G σ h nx w (Builtin.append_ #[t,u] ty #[S,X]) (evAppendS ti tu te et s x h nx):=by
 have h0:=evAppend_ok hk t u ty ht htu hte hs hx
 unfold evAppendS
 split
 ·rename_i d q1 q2 q3 q4 du q5 q6 q7 q8 de size bytes z q11
  cases d <;> try trivial
  rename_i e
  have hzap:=zap_ok hk t u ty ht htu (hte _ rfl) hs hx
  clear ht htu hte
  simp only
  split
  ·exact hzap
  ·rename_i hb
   simp only[Bool.and_eq_true]at hb
   obtain⟨⟨⟨b1,b2⟩,b3⟩,b4⟩:=hb
   have b4':1≤size:=Nat.le_of_ble_eq_true b4
   unfold evAppend at h0
   simp only[b1,b2,b3]at h0
   split
   ·trivial
   ·rename_i m news hsrc
    obtain⟨NL,hnl,hnlen,_⟩:=srcL_ok (P:=P) hk hx hsrc
    simp only[hsrc]at h0
    split
    ·trivial
    ·rename_i hone
     simp only[hone]at h0
     cases s <;> try trivial
     ·
      simp only at h0 ⊢
      split
      ·rename_i hm
       simp only[hm]at h0
       exact h0
      ·rename_i hm
       simp only[hm]at h0
       split
       ·rename_i hm2
        simp only[hm2,growK,putNK_eq,fN_eq,Tr.putK_eq]at h0
        have e1:Nat.mul m size=news.length:=hnlen.symm
        rw[e1]at h0
        exact h0
       ·trivial
     ·
      rename_i i o len cp opn
      simp only at h0 ⊢
      split
      ·rename_i e' n cs opn' esz hg
       obtain⟨b',C,fr,hb',hheap,hcell,_,_⟩:=hk.cells hg
       have htl:∀k,k<n→cs.get k=(toL cs n)[k]?:=by
        intro k hk'
        obtain⟨v,_,hv,_⟩:=hcell k hk'
        rw[hv,toL_get hk' hv]
       split
       ·trivial
       ·rename_i hlm
        simp only[hlm,hg]at h0
        cases opn with
        |true=>
         simp only at h0 ⊢
         split
         ·rename_i hall
          simp only[Bool.and_eq_true]at hall
          obtain⟨⟨⟨⟨⟨a1,a2⟩,a3⟩,a4⟩,a5⟩,a6⟩:=hall
          have a1':=Nat.eq_of_beq_eq_true a1
          have a2':=Nat.eq_of_beq_eq_true a2
          have a4':=Nat.eq_of_beq_eq_true a4
          have a5':=Nat.eq_of_beq_eq_true a5
          have a6':len * size=n:=Nat.eq_of_beq_eq_true a6
          subst a1'
          subst a2'
          subst a3
          subst a4'
          subst a5'
          have hle0:Nat.ble (Nat.add 0 (Nat.mul len esz)) n=true:=Nat.ble_eq_true_of_le (by show 0+len * esz≤n;omega)
          simp only[hle0,Nat.beq_refl,Bool.and_self,b4]at h0
          by_cases hm:m=0
          ·subst hm
           have hnews:news=[]:=List.eq_nil_of_length_eq_zero (by rw[hnlen];simp)
           subst hnews
           have hfit:Nat.ble (Nat.mul (Nat.add len 0) esz) n=true:=Nat.ble_eq_true_of_le (by show (len+0) * esz≤n;simp;omega)
           simp only[hfit,putNK_eq,Tr.putK_eq,fN_eq,putN]at h0
           obtain⟨V,τ,y,r1,r2,r3⟩:=h0
           have hgi:((h.put i (some (ABlk.cells e' n cs true esz))).get i)=some (.cells e' n cs true esz):=by rw[Tr.get_put,if_pos rfl]
           simp only[Rel]at r2
           obtain⟨bb,hbb,eV,hle⟩:=r2
           obtain⟨bb',oo,hbb',hoo,hrb⟩:=r3.ok.blk i _ hgi
           rw[hbb]at hbb'
           cases hbb'
           have hlt:i<nx:=hk.lt hg
           have hrb2:RelB (τ.add nx bb (τ.cap i)) nx (.cells e' n cs true esz) oo:=by
            have hle':τ.Le (τ.add nx bb (τ.cap i)):=Sg.add_le (r3.ok.fresh nx (Nat.le_refl _))
            simp only[RelB]at hrb ⊢
            obtain⟨C2,fr2,e2,k1,k2,k3⟩:=hrb
            refine⟨C2,fr2,e2,fun k hk'=>?_,k2,?_⟩
            ·obtain⟨v,V',w1,w2,w3⟩:=k1 k hk'
             exact⟨v,V',w1,w2,w3.mono hle'⟩
            ·simpa[Sg.add]using k3
           have hr:=Post.rename r3.ok hgi hbb (.cells e' n cs true esz) oo hoo hrb2
           refine⟨V,_,y,r1,?_,(r3.trans hr).he ?_⟩
           ·simp only[Rel,if_true]at eV hle ⊢
            refine⟨bb,by simp[Sg.add],?_,?_⟩
            ·simpa[Sg.add]using eV
            ·simpa[Sg.add]using hle
           ·intro j B hj
            rw[Tr.get_put]at hj ⊢
            by_cases ej:j=nx
            ·rw[if_pos ej]at hj ⊢
             cases hj
             refine⟨_,rfl,putN (toL cs n++[]) .nil 0,?_,fun k hk'=>?_⟩
             ·simp[bx,toL_length]
             ·rw[get_putN0,List.append_nil];exact(htl k hk').symm
            ·rw[if_neg ej]at hj ⊢
             rw[Tr.get_put]at hj ⊢
             split at hj
             ·cases hj
             ·rename_i hji
              refine⟨B,?_,.refl B⟩
              rw[if_neg hji,Tr.get_put,if_neg hji]
              exact hj
          ·have hfit:Nat.ble (Nat.mul (Nat.add len m) esz) n=false:=ble_ff (by
            show n<(len+m) * esz
            rw[Nat.add_mul]
            have:1 * 1≤m * esz:=Nat.mul_le_mul (by omega) b4'
            omega)
           simp only[hfit,putNK_eq,Tr.putK_eq,fN_eq]at h0
           refine SV.he h0 (HE.put ?_)
           have hlen2:Nat.mul (Nat.add len m) esz=n+news.length:=by
            show (len+m) * esz=_
            rw[Nat.add_mul,hnlen,a6']
           refine⟨putN (toL cs n++news) .nil 0,by simp only[bx,List.length_append,toL_length,hlen2],fun k hk'=>?_⟩
           rw[hlen2]at hk'
           rw[get_putN0,get_putN]
           have hmul:Nat.mul len esz=n:=a6'
           rw[hmul]
           by_cases hkn:k<n
           ·rw[if_neg (by omega),List.getElem?_append_left (by rw[toL_length];exact hkn),htl k hkn]
           ·rw[if_pos (by omega),List.getElem?_append_right (by rw[toL_length];omega),toL_length]
         ·trivial
        |false=>
         simp only at h0 ⊢
         split
         ·trivial
         ·rename_i hall
          simp only[Bool.and_eq_true]at hall
          obtain⟨a1,a2⟩:=hall
          have a1':=Nat.eq_of_beq_eq_true a1
          subst a1'
          have a2':o+cp * size≤n:=Nat.le_of_ble_eq_true a2
          simp only[a2]at h0
          by_cases hm:m=0
          ·subst hm
           have hnews:news=[]:=List.eq_nil_of_length_eq_zero (by rw[hnlen];simp)
           subst hnews
           have hroom:Nat.ble (Nat.add cp 0) cp=true:=Nat.ble_eq_true_of_le (Nat.le_refl _)
           have hfit:Nat.ble (Nat.add o (Nat.mul (Nat.add cp 0) size)) n=true:=a2
           simp only[hroom,hfit,putNK_eq,Tr.putK_eq,fN_eq,putN]at h0
           simp only[]
           refine SV.he h0 fun j B hj=>?_
           rw[Tr.get_put]
           by_cases ej:j=i
           ·subst ej
            rw[hg]at hj
            cases hj
            exact⟨_,by rw[if_pos rfl],.refl _⟩
           ·rw[if_neg ej];exact⟨B,hj,.refl B⟩
          ·have hroom:Nat.ble (Nat.add cp m) cp=false:=ble_ff (by show cp<cp+m;omega)
           have hm0:Nat.beq m 0=false:=by
            cases e0:Nat.beq m 0 with
            |false=>rfl
            |true=>exact absurd (Nat.eq_of_beq_eq_true e0) hm
           have hgn:getN cs (Nat.mul cp size) o=some (((toL cs n).drop o).take (Nat.mul cp size)):=by
            have hmul:Nat.mul cp size=cp * size:=rfl
            refine getN_of (by simp[toL_length];omega) fun k hk'=>?_
            rw[hmul]at hk'
            rw[htl (o+k) (by omega),List.getElem?_take,if_pos (by rw[hmul];exact hk'),List.getElem?_drop]
           simp only[hroom,hgn,growK,putNK_eq,Tr.putK_eq,fN_eq]at h0
           simp only[hm0]
           have hlen2:Nat.mul (Nat.add cp m) size=(((toL cs n).drop o).take (Nat.mul cp size)++news).length:=by
            have hmul:Nat.mul cp size=cp * size:=rfl
            rw[List.length_append,List.length_take,List.length_drop,toL_length,hnlen,hmul,Nat.min_eq_left (by omega)]
            show (cp+m) * size=_
            rw[Nat.add_mul]
           rw[hlen2]at h0
           exact h0
      ·trivial
     ·
      rename_i es full xs
      simp only at h0 ⊢
      split
      ·trivial
      ·rename_i hall
       simp only[Bool.and_eq_true]at hall
       obtain⟨a1,a2⟩:=hall
       subst a2
       simp only[a1]at h0
       split
       ·rename_i hm
        simp only[hm]at h0
        exact h0
       ·rename_i hm
        simp only[hm]at h0
        split
        ·rename_i hm2
         simp only[hm2,growK,putNK_eq,fN_eq,Tr.putK_eq]at h0
         obtain⟨_,_,_,_,_,g2,_⟩:=hk.fz (P:=P) hs
         have e0:=Nat.eq_of_beq_eq_true a1
         have e1:Nat.mul (Nat.add xs.length m) size=(xs.flatMap AV.cells++news).length:=by
          rw[List.length_append,g2,hnlen,← e0]
          show (xs.length+m) * es=_
          rw[Nat.add_mul,e0]
         rw[e1]at h0
         exact h0
        ·trivial
 ·trivial
end
end Go.Ev
namespace Go.Ev
noncomputable section
variable {P : Program} {c : Cx} {σ τ υ : Sg} {h g f : Tr ABlk} {nx ny nz : Nat} {w x y : World} {tm : Tr AV} {a : Act}
def pStoreS (c:Cx)(t:TypeId)(x y:Operand)(tm:Tr AV)(h:Tr ABlk) (nx:Nat):R:=bR (c.tt.get t) fun ti=>bR (evO c.G tm x) fun a=>bR (evO c.G tm y) fun v=>evStoreS ti a v h nx
def pAppendS (c:Cx)(argTypes:List TypeId)(args:List Operand)(tm:Tr AV)(h:Tr ABlk) (nx:Nat):R:=match argTypes with
 |[t,u]=>bR (c.tt.get t) fun ti=>bR (c.tt.get u) fun tu=>match args with
  |[x,y]=>bR (evO c.G tm x) fun a=>bR (evO c.G tm y) fun b=>evAppendS ti tu (c.tt.get (elemT ti)) (elemT ti) a b h nx
  |_=>.fail
 |_=>.fail
def isAppend:Call→Bool
 |⟨.builtin .append,_,_⟩=>true
 |_=>false
def evPlainS (c:Cx)(op:Op):Tr AV→Tr ABlk→Nat→R:=
 match op with
 |.store t x y=>pStoreS c t x y
 |.call cl=>match isAppend cl with
  |true=>pAppendS c cl.argTypes.toList cl.args.toList
  |false=>pCall c cl
 |op=>evPlain c op
theorem evPlainS_ok (hc:CxOk P c)(hk:Ok c.G σ h nx w)(ht:TmOk σ tm a)(o:Oper):RO P c.G σ h nx w (execOp a.eval o) (evPlainS c o.op tm h nx):=by
 have h0:=evPlain_ok hc hk ht o
 have he:∀{x v},evO c.G tm x=some v→Rel σ v (a.eval x):=fun e=>evO_ok hk ht e
 have hT:∀(t:TypeId) (ti:TI),c.tt.get t=some ti→TIok P t ti:=hc.tt
 obtain⟨dst,op,type,pos,after,guard⟩:=o
 cases op <;> try exact h0
 ·exact bR_ok fun ti e=>bR_ok fun v e1=>bR_ok fun u e2=>RO.ofU (evStoreS_ok hk _ (hT _ _ e) (he e1) (he e2))
 ·rename_i cl
  obtain⟨callee,args,argTypes⟩:=cl
  cases callee <;> try exact h0
  rename_i b
  cases b <;> try exact h0
  clear h0
  show RO P c.G σ h nx w _ (pAppendS c argTypes.toList args.toList tm h nx)
  unfold pAppendS
  split
  ·rename_i t u hts
   refine bR_ok fun ti e1=>bR_ok fun tu e2=>?_
   split
   ·rename_i x y hxy
    refine bR_ok fun A e3=>bR_ok fun B e4=>?_
    have hta:argTypes=#[t,u]:=by apply Array.ext';simpa using hts
    have hargs:args=#[x,y]:=by apply Array.ext';simpa using hxy
    have e5:execOp a.eval ⟨dst,.call ⟨.builtin .append,args,argTypes⟩,type,pos,after,guard⟩=builtin .append argTypes type (args.map fun |.const _=>true |_=>false) (args.map a.eval):=rfl
    rw[e5]
    refine RO.ofV ?_
    have e6:args.map a.eval=#[a.eval x,a.eval y]:=by rw[hargs];simp
    rw[e6,hta]
    exact evAppendS_ok hk t u type (hT _ _ e1) (hT _ _ e2) (hT _) (he e3) (he e4)
   ·trivial
  ·trivial
end
end Go.Ev
namespace Go.Ev
def fence (r:Option Nat):Fence:={ Fence.wide with round:=r }
theorem calls_fence {r:Option Nat}{n:Nat}{P:Program}{f:FuncId}{A:Array Value}{w:World}{R:Ending→World→Prop}(h:Calls P f A w R):CallsIn (fence r) n P f A w R:=by
 have:=(callsIn_wide (n:=n)).2 h
 exact this
inductive AX where
 |norm
 |exit (id:Nat)
 |ret
def AX.ex:AX→Exit
 |.norm=>.normal
 |.exit id=>.exit id
 |.ret=>.ret
inductive DE where
 |mark (i:Nat)
 |fn (f:FuncId) (first cap:List AV)
inductive AS where
 |mk (tm:Tr AV) (h:Tr ABlk) (nx:Nat) (ds:List DE)
def AS.tm:AS→Tr AV |.mk t _ _ _=>t
def AS.h:AS→Tr ABlk |.mk _ h _ _=>h
def AS.nx:AS→Nat |.mk _ _ n _=>n
def AS.ds:AS→List DE |.mk _ _ _ d=>d
def RelD (σ:Sg):List DE→List Deferred→Prop
 |[],D=>D=[]
 |.mark i::l,D=>∃b D',D={ target:=.collected b,args:=#[] }::D'∧σ.blk i=some b∧RelD σ l D'
 |.fn f first cap::l,D=>∃F C D',D={ target:=.fn (.func f) C.toArray,args:=F.toArray }::D'∧RelL σ first F∧RelL σ cap C∧RelD σ l D'
theorem RelD.mono {σ τ:Sg}(hl:σ.Le τ):∀{l D},RelD σ l D→RelD τ l D
 |[],D,h=>h
 |.mark i::l,D,h=>by
  obtain⟨b,D',e,h1,h2⟩:=h
  exact⟨b,D',e,(hl.blk i b h1).1,h2.mono hl⟩
 |.fn f a b::l,D,h=>by
  obtain⟨F,C,D',e,h1,h2,h3⟩:=h
  exact⟨F,C,D',e,h1.mono hl,h2.mono hl,h3.mono hl⟩
structure St (σ:Sg)(tm:Tr AV)(a:Act) (sz:Nat)(ds:List DE):Prop where
 tm:TmOk σ tm a
 size:a.tmps.size=sz
 defers:RelD σ ds a.defers
variable {P : Program} {c : Cx} {σ τ υ : Sg} {h g f : Tr ABlk} {nx ny nz sz : Nat} {ds : List DE} {w x y : World} {tm : Tr AV} {a : Act}
theorem TmOk.mono (hl:σ.Le τ)(ht:TmOk σ tm a):TmOk τ tm a:=fun t v e=>(ht t v e).mono hl
theorem St.mono (hl:σ.Le τ)(ht:St σ tm a sz ds):St τ tm a sz ds:=⟨ht.tm.mono hl,ht.size,ht.defers.mono hl⟩
theorem St.put (ht:St σ tm a sz ds){d:Nat}(hd:d<sz){v:AV}{V:Value}(hv:Rel σ v V):St σ (tm.put d (some v)) (a.put (some d) V) sz ds:=by
 refine⟨fun t u e=>?_,by simpa[Act.put]using ht.size,ht.defers⟩
 rw[Tr.get_put]at e
 have hs:d<a.tmps.size:=by rw[ht.size];exact hd
 by_cases h1:t=d
 ·subst h1
  rw[if_pos rfl]at e
  cases e
  simpa[Act.put,Array.getD_eq_getD_getElem?,hs]using hv
 ·rw[if_neg h1]at e
  have:=ht.tm t u e
  simpa[Act.put,Array.getD_eq_getD_getElem?,Array.getElem?_setIfInBounds,Ne.symm h1]using this
def AQ (G:Gl)(σ:Sg)(h:Tr ABlk) (nx:Nat)(w:World) (sz:Nat)(Q:AX→AS→Prop)(e:Exit)(a:Act)(x:World):Prop:=
 ∃k tm g ny ds τ,AX.ex k=e∧Post G σ h nx w τ g ny x∧St τ tm a sz ds∧Q k (.mk tm g ny ds)
theorem AQ.trans {G:Gl}{Q:AX→AS→Prop}{e:Exit}(p:Post G σ h nx w τ g ny x)(q:AQ G τ g ny x sz Q e a y):AQ G σ h nx w sz Q e a y:=by
 obtain⟨k,tm,g',ny',ds,υ,e1,q1,q2,q3⟩:=q
 exact⟨k,tm,g',ny',ds,υ,e1,p.trans q1,q2,q3⟩
theorem AQ.mono {G:Gl}{Q R:AX→AS→Prop}{e:Exit}(q:AQ G σ h nx w sz Q e a y)(hr:∀k s,Q k s→R k s):AQ G σ h nx w sz R e a y:=by
 obtain⟨k,tm,g',ny',ds,υ,e1,q1,q2,q3⟩:=q
 exact⟨k,tm,g',ny',ds,υ,e1,q1,q2,hr _ _ q3⟩
def CR (P:Program)(f:FuncId)(A:Array Value)(w:World)(Q:Value→World→Prop):Prop:=
 match (callFunc f A).run P w with
 |.ok (.enter f' A') w'=>Calls P f' A' w' fun e x=>match e with |.returned v=>Q v x |_=>False
 |.ok (.value v) w'=>Q v w'
 |_=>False
theorem CR.mono {f:FuncId}{A:Array Value}{Q R:Value→World→Prop}(h:CR P f A w Q)(hr:∀v x,Q v x→R v x):CR P f A w R:=by
 unfold CR at *
 split
 ·rename_i f' A' w' e
  rw[e]at h
  exact Calls.mono h fun e x q=>by cases e <;> first |exact hr _ _ q |exact q.elim
 ·rename_i v w' e
  rw[e]at h
  exact hr _ _ h
 ·rename_i h1 h2
  split at h
  ·rename_i f' A' w' e;exact absurd e (h1 _ _ _)
  ·rename_i v w' e;exact absurd e (h2 _ _)
  ·exact h
def ACall (P:Program)(c:Cx)(f:FuncId)(args:List AV)(h:Tr ABlk) (nx:Nat)(R:AV→Tr ABlk→Nat→Prop):Prop:=
 ∀(σ:Sg) (w:World) (A:List Value),Ok c.G σ h nx w→RelL σ args A→CR P f A.toArray w fun V x=>∃τ v g ny,Rel τ v V∧Post c.G σ h nx w τ g ny x∧R v g ny
theorem ACall.mono {f:FuncId}{args:List AV}{R S:AV→Tr ABlk→Nat→Prop}(hc:ACall P c f args h nx R)(hr:∀v g ny,R v g ny→S v g ny):ACall P c f args h nx S:=
 fun σ w A ok hA=>(hc σ w A ok hA).mono fun V x ⟨τ,v,g,ny,h1,h2,h3⟩=>⟨τ,v,g,ny,h1,h2,hr _ _ _ h3⟩
def AYld (P:Program)(c:Cx) (i:Nat)(args:List AV)(h:Tr ABlk) (nx:Nat)(R:AV→Tr ABlk→Nat→Prop):Prop:=
 ∀(σ:Sg) (w:World) (A:List Value) (l:Nat),Ok c.G σ h nx w→RelL σ args A→σ.blk i=some l→∃fn tmps assign body,(Instr.yield l A.toArray).run P w=.ok (.round l fn tmps assign body) w∧
  RoundIn Fence.wide 0 P l fn tmps assign body w fun e x=>match e with
   |.returned V=>∃τ v g ny,Rel τ v V∧Post c.G σ h nx w τ g ny x∧R v g ny
   |_=>False
theorem AYld.mono {i:Nat}{args:List AV}{R S:AV→Tr ABlk→Nat→Prop}(hc:AYld P c i args h nx R)(hr:∀v g ny,R v g ny→S v g ny):AYld P c i args h nx S:=
 fun σ w A l ok hA hb=>by
  obtain⟨fn,tmps,assign,body,h1,h2⟩:=hc σ w A l ok hA hb
  refine⟨fn,tmps,assign,body,h1,h2.mono fun e x q=>?_⟩
  cases e with
  |returned V=>
   obtain⟨τ,v,g,ny,h1,h2,h3⟩:=q
   exact⟨τ,v,g,ny,h1,h2,hr _ _ _ h3⟩
  |panicked ch=>exact q
  |outgrown=>exact q
theorem round_fence {r:Option Nat}{P:Program}{l:Nat}{f:FuncId}{T:Array Value}{x y:Code}{w:World}{R:Ending→World→Prop}(h:RoundIn Fence.wide 0 P l f T x y w R):RoundIn (fence r) 0 P l f T x y w R:=h
def AW (P:Program)(c:Cx)(inr:Bool) (sz:Nat)(code:Code)(Q:AX→AS→Prop)(s:AS):Prop:=
 ∀r:Option Nat,(inr=false→r=none)→∀(σ:Sg) (a:Act) (w:World),Ok c.G σ s.h s.nx w→St σ s.tm a sz s.ds→code.wpIn (fence r) 0 P (AQ c.G σ s.h s.nx w sz Q) a w
section rules
variable {inr : Bool} {Q : AX → AS → Prop} {s : AS}
theorem AW.mono {code:Code}{R:AX→AS→Prop}(h:AW P c inr sz code Q s)(hr:∀k s,Q k s→R k s):AW P c inr sz code R s:=
 fun r hi σ a w ok st=>wpIn_mono (h r hi σ a w ok st) fun _ _ _ q=>q.mono hr
theorem AQ.mk {G:Gl}(ok:Ok G σ s.h s.nx w)(st:St σ s.tm a sz s.ds){k:AX}(hq:Q k s):AQ G σ s.h s.nx w sz Q k.ex a w:=by
 cases s
 exact⟨k,_,_,_,_,σ,rfl,.refl ok,st,hq⟩
theorem AW_skip (hq:Q .norm s):AW P c inr sz .skip Q s:=fun _ _ _ _ _ ok st=>wpIn_skip (AQ.mk (k:=.norm) ok st hq)
theorem AW_label {l:Nat}(hq:Q .norm s):AW P c inr sz (.label l) Q s:=fun _ _ _ _ _ ok st=>wpIn_label (AQ.mk (k:=.norm) ok st hq)
theorem AW_exit {id:Nat}(hq:Q (.exit id) s):AW P c inr sz (.exit id) Q s:=fun _ _ _ _ _ ok st=>wpIn_exit (AQ.mk (k:=.exit id) ok st hq)
theorem AW_ret (hq:Q .ret s):AW P c inr sz .ret Q s:=fun _ _ _ _ _ ok st=>wpIn_ret (AQ.mk (k:=.ret) ok st hq)
def thenA (K:AS→Prop)(Q:AX→AS→Prop):AX→AS→Prop
 |.norm,s=>K s
 |.exit id,s=>Q (.exit id) s
 |.ret,s=>Q .ret s
theorem AW_seq {x y:Code}(hx:AW P c inr sz x (thenA (AW P c inr sz y Q) Q) s):AW P c inr sz (.seq x y) Q s:=by
 intro r hi σ a w ok st
 refine wpIn_seq (wpIn_mono (hx r hi σ a w ok st) fun e a' w' q=>?_)
 obtain⟨k,tm,g,ny,ds,τ,e1,q1,q2,q3⟩:=q
 cases k with
 |norm=>
  subst e1
  exact wpIn_mono (q3 r hi τ a' w' q1.ok q2) fun _ _ _ q=>q.trans q1
 |exit id=>subst e1;exact⟨.exit id,tm,g,ny,ds,τ,rfl,q1,q2,q3⟩
 |ret=>subst e1;exact⟨.ret,tm,g,ny,ds,τ,rfl,q1,q2,q3⟩
theorem AW_cond {o:Operand}{x y:Code}{t:Bool}(ho:evO c.G s.tm o=some (.bool t))(hx:t=true→AW P c inr sz x Q s)(hy:t=false→AW P c inr sz y Q s):AW P c inr sz (.cond o x y) Q s:=by
 intro r hi σ a w ok st
 have hb:a.eval o=.bool t:=by simpa only[Rel]using evO_ok ok st.tm ho
 exact wpIn_cond_split hb (fun e=>hx e r hi σ a w ok st) (fun e=>hy e r hi σ a w ok st)
def inBlockA (id:Nat)(Q:AX→AS→Prop):AX→AS→Prop
 |.norm,s=>Q .norm s
 |.exit id',s=>if id'=id then Q .norm s else Q (.exit id') s
 |.ret,s=>Q .ret s
theorem AW_block {id:Nat}{x:Code}(hx:AW P c inr sz x (inBlockA id Q) s):AW P c inr sz (.block id x) Q s:=by
 intro r hi σ a w ok st
 refine wpIn_block (wpIn_mono (hx r hi σ a w ok st) fun e a' w' q=>?_)
 obtain⟨k,tm,g,ny,ds,τ,e1,q1,q2,q3⟩:=q
 cases k with
 |norm=>subst e1;exact⟨.norm,tm,g,ny,ds,τ,rfl,q1,q2,q3⟩
 |ret=>subst e1;exact⟨.ret,tm,g,ny,ds,τ,rfl,q1,q2,q3⟩
 |exit id'=>
  subst e1
  simp only[AX.ex,Exit.inBlock]
  simp only[inBlockA]at q3
  split
  ·rename_i hid
   rw[if_pos hid]at q3
   exact⟨.norm,tm,g,ny,ds,τ,rfl,q1,q2,q3⟩
  ·rename_i hid
   rw[if_neg hid]at q3
   exact⟨.exit id',tm,g,ny,ds,τ,rfl,q1,q2,q3⟩
theorem least {p:Nat→Prop}(h:∃n,p n):∃n,p n∧∀m,p m→n≤m:=by
 obtain⟨n,hn⟩:=h
 induction n using Nat.strongRecOn with
 |_ n ih=>
  by_cases hm:∃m,m<n∧p m
  ·obtain⟨m,h1,h2⟩:=hm
   exact ih m h1 h2
  ·refine⟨n,hn,fun m hp=>?_⟩
   rcases Nat.lt_or_ge m n with h1 |h1
   ·exact absurd ⟨m,h1,hp⟩ hm
   ·exact h1
open Classical in
noncomputable def leastN (p:Nat→Prop):Nat:=if h:∃n,p n then (least h).choose else 0
theorem leastN_spec {p:Nat→Prop}(h:∃n,p n):p (leastN p)∧∀m,p m→leastN p≤m:=by
 unfold leastN
 rw[dif_pos h]
 exact(least h).choose_spec
theorem AW_loop {x:Code}(I:Nat→AS→Prop){n:Nat}(h0:I n s)(hx:∀n s,I n s→AW P c inr sz x (thenA (fun s'=>∃m,m<n∧I m s') Q) s):AW P c inr sz (.loop x) Q s:=by
 intro r hi σ a w ok st
 let J:Act→World→Nat→Prop:=fun a' w' m=>∃s' τ,I m s'∧Post c.G σ s.h s.nx w τ s'.h s'.nx w'∧St τ s'.tm a' sz s'.ds
 refine wpIn_loop (fun a' w'=>∃m,J a' w' m) (fun a' w'=>leastN (J a' w')) ⟨n,s,σ,h0,.refl ok,st⟩ fun a' w' hJ=>?_
 obtain⟨⟨s',τ,h1,h2,h3⟩,hmin⟩:=leastN_spec hJ
 refine wpIn_mono (hx _ s' h1 r hi τ a' w' h2.ok h3) fun e a2 w2 q=>?_
 obtain⟨k,tm,g,ny,ds,υ,e1,q1,q2,q3⟩:=q
 cases k with
 |norm=>
  subst e1
  obtain⟨m,hm,hI⟩:=q3
  have hJ2:J a2 w2 m:=⟨.mk tm g ny ds,υ,hI,h2.trans q1,q2⟩
  exact⟨⟨m,hJ2⟩,Nat.lt_of_le_of_lt ((leastN_spec ⟨m,hJ2⟩).2 m hJ2) hm⟩
 |exit id=>subst e1;exact⟨.exit id,tm,g,ny,ds,υ,rfl,h2.trans q1,q2,q3⟩
 |ret=>subst e1;exact⟨.ret,tm,g,ny,ds,υ,rfl,h2.trans q1,q2,q3⟩
theorem AW_rounds {x:Code}(I:Nat→AS→Prop)(h0:∃n,I n s)(hx:∀n s,I n s→∀J:AS→Prop,(∀m s',m<n→I m s'→J s')→AW P c inr sz x (thenA J Q) s):AW P c inr sz (.loop x) Q s:=by
 obtain⟨n,h0⟩:=h0
 exact AW_loop I h0 fun n s hI=>hx n s hI _ fun m s' h1 h2=>⟨m,h1,h2⟩
end rules
end Go.Ev
namespace Go.Ev
section
variable {P : Program} {F : Fence} {n : Nat} {b : Frame} {a : Act} {k : List Item} {cs : List Frame} {w : World} {Q : Exit → Act → World → Prop}
theorem stepR_scope {c:Code}:step P (lone (b.atR a (.code (.scope c)::k)) cs w)=.next (lone (b.atR a (.code c::.inScope c::k)) cs w):=
 step_lone_go (by simp[stepG,stepG.exec,Frame.atR])
theorem stepR_inScope {c:Code}:step P (lone (b.atR a (.inScope c::k)) cs w)=.next (lone (b.atR a k) cs w):=
 step_lone_go (by simp[stepG,stepG.exec,Frame.atR])
theorem wpIn_scope {c:Code}(h:c.wpIn F n P (fun e a w=>match e with |.goto _=>False |e=>Q e a w) a w):(Code.scope c).wpIn F n P Q a w:=by
 intro b k cs hro hb hr
 have h0:(lone (b.atR a (.code (.scope c)::k)) cs w).fenced P F:=fenced_calm hb hr rfl
 obtain⟨e,a₁,w₁,hq,harr⟩:=h b (.inScope c::k) cs hro hb hr
 cases e with
 |normal=>exact⟨.normal,a₁,w₁,hq,.head h0 stepR_scope (StepsIn.trans harr (.one (fenced_calm hb hr rfl) stepR_inScope))⟩
 |exit id'=>
  have hx:exitTo id' (.inScope c::k)=exitTo id' k:=by simp[exitTo]
  exact⟨.exit id',a₁,w₁,hq,fun k' hk=>.head h0 stepR_scope (harr.1 k' (by rw[hx];exact hk)),
   fun hr' hk=>let ⟨k₁,h1,h2⟩:=harr.2 hr' (by rw[hx];exact hk);⟨k₁,h1,.head h0 stepR_scope h2⟩⟩
 |goto l=>exact hq.elim
 |ret=>exact⟨_,a₁,w₁,hq,.of_steps (.one h0 stepR_scope) harr⟩
 |panic ch=>exact⟨_,a₁,w₁,hq,.of_steps (.one h0 stepR_scope) harr⟩
 |outgrown=>exact⟨_,a₁,w₁,hq,.of_steps (.one h0 stepR_scope) harr⟩
end
theorem AW_scope {P:Program}{c:Cx}{inr:Bool}{sz:Nat}{code:Code}{Q:AX→AS→Prop}{s:AS}(h:AW P c inr sz code Q s):AW P c inr sz (.scope code) Q s:=by
 intro r hi σ a w ok st
 refine wpIn_scope (wpIn_mono (h r hi σ a w ok st) fun e a' w' q=>?_)
 obtain⟨k,tm,g,ny,ds,τ,e1,q1,q2,q3⟩:=q
 subst e1
 cases k <;> exact⟨_,tm,g,ny,ds,τ,rfl,q1,q2,q3⟩
end Go.Ev
namespace Go.Ev
noncomputable section
variable {P : Program} {c : Cx} {G : Gl} {σ τ υ : Sg} {h g f : Tr ABlk} {nx ny nz : Nat} {w x y : World}
def isArr:TypeDesc→Bool
 |.array _ _=>true
 |_=>false
def isKeyT (c:Cx)(t:TypeId):Bool:=match c.tt.get t with
 |some (.mk (.map kt _) _ _ _ _)=>match c.tt.get kt with
  |some (.mk d _ _ _ _)=>isArr d
  |none=>false
 |_=>false
def keyEq2:AV→AV→Option Bool
 |.agg [.int .i64 a,.int .i64 b],.agg [.int .i64 a',.int .i64 b']=>some (decide (a=a'∧b=b'))
 |_,_=>none
def findK (k:AV):List (AV×AV×Nat)→Nat→Option (Option (Nat×AV))
 |[],_=>some none
 |(k',v,_)::es,i=>match keyEq2 k k' with
  |some true=>some (some (i,v))
  |some false=>findK k es (i+1)
  |none=>none
structure KeyOk (P:Program)(kt el:TypeId):Prop where
 un:P.underlying kt=some (.array 2 el)
 ue:∃k,P.underlying el=some (.int k)
 sz:∃i,P.info? el=some i∧i.size=1
theorem keyEq2_some {k k':AV}{b:Bool}(h:keyEq2 k k'=some b):∃a d a' d',k=.agg [.int .i64 a,.int .i64 d]∧k'=.agg [.int .i64 a',.int .i64 d']∧b=decide (a=a'∧d=d'):=by
 unfold keyEq2 at h
 split at h
 ·cases h
  exact⟨_,_,_,_,rfl,rfl,rfl⟩
 ·cases h
theorem rel_key {a d:Int}{K:Value}(h:Rel σ (.agg [.int .i64 a,.int .i64 d]) K):K=.agg #[.int .i64 a,.int .i64 d]:=by
 simp only[Rel,RelL]at h
 obtain⟨L,e,v,t,e1,h1,v2,t2,e2,h2,e3⟩:=h
 subst e3;subst h2;subst e2;subst h1;subst e1
 exact e
theorem KeyOk.part {kt el:TypeId}(hk:KeyOk P kt el) (a d:Int)(w:World):(Go.part el #[.int .i64 a,.int .i64 d] 0).run P w=.ok (.int .i64 a) w∧(Go.part el #[.int .i64 a,.int .i64 d] 1).run P w=.ok (.int .i64 d) w:=by
 obtain⟨k,hu⟩:=hk.ue
 constructor <;> simp[Go.part,run_agg hu,isA]
theorem KeyOk.check {kt el:TypeId}(hk:KeyOk P kt el)(e:Bool) (a d:Int)(w:World):(Instr.checkKey e 10000 kt (.agg #[.int .i64 a,.int .i64 d])).run P w=.ok () w:=by
 obtain⟨k,hu⟩:=hk.ue
 obtain⟨i,hi,hs⟩:=hk.sz
 obtain⟨p0,p1⟩:=hk.part a d w
 have hc:∀v:Value,(Instr.checkKey e 9999 el v).run P w=.ok () w:=fun v=>run_checkKey hu rfl e 9998 v w
 rw[show (10000:Nat)=9999+1 from rfl,Instr.checkKey]
 simp only[Sem.run_bind,run_underlying hk.un,Result.andThen]
 simp[Std.Legacy.Range.forIn_eq_forIn_range',Std.Legacy.Range.size,List.range',run_size hi,hs,p0,p1,hc]
theorem KeyOk.equal {kt el:TypeId}(hk:KeyOk P kt el) (a d a' d':Int)(w:World):(Op.equal kt (.agg #[.int .i64 a,.int .i64 d]) (.agg #[.int .i64 a',.int .i64 d'])).run P w=.ok (decide (a=a'∧d=d')) w:=by
 obtain⟨k,hu⟩:=hk.ue
 obtain⟨i,hi,hs⟩:=hk.sz
 obtain⟨p0,p1⟩:=hk.part a d w
 obtain⟨q0,q1⟩:=hk.part a' d' w
 have he:∀p q:Int,(Op.equalIn 9999 el (.int .i64 p) (.int .i64 q)).run P w=.ok (p == q) w:=fun p q=>by
  rw[show (9999:Nat)=9998+1 from rfl,Op.equalIn]
  simp[run_underlying hu]
 unfold Op.equal
 rw[show Op.maxDepth=9999+1 from rfl,Op.equalIn]
 simp only[Sem.run_bind,run_underlying hk.un,Result.andThen]
 simp[Std.Legacy.Range.forIn_eq_forIn_range',Std.Legacy.Range.size,List.range',run_size hi,hs,p0,p1,q0,q1,he]
 by_cases e1:a=a' <;> by_cases e2:d=d' <;> simp[e1,e2]
theorem keyEq2_ok {kt el:TypeId}(hk:KeyOk P kt el){k k':AV}{b:Bool}(he:keyEq2 k k'=some b){K K':Value}(h1:Rel σ k K)(h2:Rel σ k' K'):(∀w,(Op.equal kt K K').run P w=.ok b w)∧(∀n m,Instr.sameNow (.array n m) K K'=none)∧(∀e w,(Instr.checkKey e 10000 kt K).run P w=.ok () w)∧(b=true→Instr.sameBits 10000 K' K=true):=by
 obtain⟨a,d,a',d',rfl,rfl,rfl⟩:=keyEq2_some he
 have:=rel_key h1
 subst this
 have:=rel_key h2
 subst this
 refine⟨fun w=>hk.equal a d a' d' w,fun n m=>rfl,fun e w=>hk.check e a d w,fun hb=>?_⟩
 have:a=a'∧d=d':=by simpa using hb
 obtain⟨rfl,rfl⟩:=this
 rw[show (10000:Nat)=9999+1 from rfl,Instr.sameBits]
 simp[Instr.sameBits]
theorem findK_ask {kt el:TypeId}(hkk:KeyOk P kt el){k:AV}{K:Value}(hk:Rel σ k K):∀{es:List (AV×AV×Nat)}{E:List MapEntry}{i:Nat}{r:Option (Nat×AV)},RelE σ es E→findK k es i=some r→
  ∃R,(∀w,(Instr.findAsking kt K E i).run P w=.ok R w)∧RelF σ r R∧∀j v,r=some (j,v)→i≤j∧j<i+es.length∧∃k',(es[j-i]?).map (·.1)=some k'∧keyEq2 k k'=some true
 |[],E,i,r,he,hf=>by
  cases hf
  simp only[RelE]at he
  subst he
  exact⟨none,fun w=>rfl,rfl,fun j v e=>by cases e⟩
 |(k',v,n)::es,E,i,r,he,hf=>by
  simp only[RelE]at he
  obtain⟨K',V,E',e,h1,h2,h3⟩:=he
  subst e
  rw[findK]at hf
  cases hs:keyEq2 k k' with
  |none=>rw[hs]at hf;cases hf
  |some b=>
   have hsn:=(keyEq2_ok hkk hs hk h1).1
   rw[hs]at hf
   cases b with
   |true=>
    cases hf
    refine⟨some (i,V),fun w=>?_,⟨V,rfl,h2⟩,fun j v' e=>?_⟩
    ·simp[Instr.findAsking,hsn]
    ·cases e
     exact⟨Nat.le_refl _,by simp,k',by simp,hs⟩
   |false=>
    simp only at hf
    obtain⟨R,a1,a2,a3⟩:=findK_ask hkk hk h3 hf
    refine⟨R,fun w=>?_,a2,fun j v' e=>?_⟩
    ·simp[Instr.findAsking,hsn,a1]
    ·obtain⟨b1,b2,k2,b3,b4⟩:=a3 j v' e
     refine⟨by omega,by simp at b2 ⊢;omega,k2,?_,b4⟩
     rw[show j-i=(j-(i+1))+1 by omega]
     simpa using b3
theorem findK_ok {kt el:TypeId}(hkk:KeyOk P kt el){k:AV}{K:Value}(hk:Rel σ k K){es:List (AV×AV×Nat)}{E:List MapEntry}{r:Option (Nat×AV)}(hE:RelE σ es E)(hf:findK k es 0=some r):
  ∃R,(∀w,(Instr.findKey kt K E).run P w=.ok R w)∧RelF σ r R∧∀j v,r=some (j,v)→j<es.length∧∃k',(es[j]?).map (·.1)=some k'∧keyEq2 k k'=some true:=by
 obtain⟨R,a1,a2,a3⟩:=findK_ask hkk hk hE hf
 refine⟨R,fun w=>?_,a2,fun j v e=>?_⟩
 ·have hnow:Instr.findNow (.array 2 el) K E 0=none∨(Instr.findNow (.array 2 el) K E 0=some none∧R=none):=by
   cases es with
   |nil=>
    simp only[RelE]at hE
    subst hE
    right
    refine⟨rfl,?_⟩
    have:=a1 default
    simp[Instr.findAsking]at this
    exact this.symm
   |cons p es=>
    obtain⟨k',v,n⟩:=p
    simp only[RelE]at hE
    obtain⟨K',V,E',e,h1,h2,h3⟩:=hE
    subst e
    left
    rw[findK]at hf
    cases hs:keyEq2 k k' with
    |none=>rw[hs]at hf;cases hf
    |some b=>
     have:=(keyEq2_ok hkk hs hk h1).2.1 2 el
     simp[Instr.findNow,this]
  unfold Instr.findKey
  simp only[Sem.run_bind,run_underlying hkk.un,Result.andThen]
  rcases hnow with q |⟨q,q2⟩
  ·rw[q];exact a1 w
  ·rw[q,q2];rfl
 ·obtain⟨_,b2,k2,b3,b4⟩:=a3 j v e
  exact⟨by omega,k2,by simpa using b3,b4⟩
def keyI (c:Cx)(t:TypeId):Option (TypeId×AV):=match c.tt.get t with
 |some (.mk (.map kt et) _ _ _ _)=>match c.tt.get kt with
  |some (.mk (.array n el) _ _ _ _)=>match c.tt.get el,c.tt.get et with
   |some (.mk (.int _) sz _ _ _),some (.mk _ _ _ (some z) _)=>match Nat.beq n 2 && Nat.beq sz 1 with
    |true=>some (kt,z)
    |false=>none
   |_,_=>none
  |_=>none
 |_=>none
theorem keyI_ok (hc:CxOk P c){t kt:TypeId}{z:AV}(hi:keyI c t=some (kt,z)):∃el et,P.underlying t=some (.map kt et)∧KeyOk P kt el∧∃Z,(∀w,(zeroValue et).run P w=.ok Z w)∧∀σ,Rel σ z Z:=by
 unfold keyI at hi
 split at hi
 ·rename_i kt' et q1 q2 q3 q4 h1
  split at hi
  ·rename_i n el q5 q6 q7 q8 h2
   split at hi
   ·rename_i ki sz q9 q10 q11 d q12 q13 z' q14 h3 h4
    cases hb:(Nat.beq n 2 && Nat.beq sz 1) with
    |false=>rw[hb]at hi;cases hi
    |true=>
     rw[hb]at hi
     cases hi
     rw[Bool.and_eq_true]at hb
     have e1:=Nat.eq_of_beq_eq_true hb.1
     have e2:=Nat.eq_of_beq_eq_true hb.2
     subst e1
     subst e2
     obtain⟨u1,_⟩:=hc.tt _ _ h1
     obtain⟨u2,_⟩:=hc.tt _ _ h2
     obtain⟨u3,i3,hi3,hs3,_⟩:=hc.tt _ _ h3
     obtain⟨u4,i4,hi4,hs4,hb4,hz4,_⟩:=hc.tt _ _ h4
     obtain⟨Z,hZ,hzr,_⟩:=hz4 z rfl
     exact⟨el,et,u1,⟨u2,⟨_,u3⟩,⟨i3,hi3,hs3⟩⟩,Z,fun w=>run_zero hi4 hZ w,hzr⟩
   ·cases hi
  ·cases hi
 ·cases hi
def evLookK (c:Cx)(t:TypeId)(ok:Bool)(m k:Option AV)(h:Tr ABlk) (nx:Nat):R:=
 match keyI c t,m,k with
 |some (_,z),some (.map i),some k=>match h.get i,keyEq2 k k with
  |some (.map es _),some _=>match findK k es 0 with
   |some r=>lookRes ok z r h nx
   |none=>.fail
  |_,_=>.fail
 |_,_,_=>.fail
theorem evLookK_ok (hc:CxOk P c)(hk:Ok c.G σ h nx w)(t:TypeId)(ok:Bool){m k:Option AV}{M K:Value}(hm:∀v,m=some v→Rel σ v M)(hkk:∀v,k=some v→Rel σ v K):RV P c.G σ h nx w (Instr.lookup t M K ok) (evLookK c t ok m k h nx):=by
 unfold evLookK
 split
 ·rename_i kt z i k q1
  obtain⟨el,et,hu,hK,Z,hZ,hzr⟩:=keyI_ok hc q1
  have hm1:=hm _ rfl
  have hk1:=hkk _ rfl
  simp only[Rel]at hm1
  obtain⟨b,hb,e⟩:=hm1
  subst e
  split
  ·rename_i es cl b0 hg hkq
   obtain⟨b',E,hb',hheap,hE⟩:=hk.map hg
   rw[hb]at hb'
   cases hb'
   cases hf:findK k es 0 with
   |none=>trivial
   |some r=>
    obtain⟨R,a1,a2,_⟩:=findK_ok hK hk1 hE hf
    have hck:=(keyEq2_ok hK hkq hk1 hk1).2.2.1
    have hgo:(getObj b).run P w=.ok (.map (List.toArray E) cl) w:=by simp[getObj,Sem.run,hheap]
    have a1':=a1 w
    cases r with
    |none=>
     simp only[RelF]at a2
     subst a2
     cases ok with
     |true=>
      refine SV.pure hk (V:=.tuple #[Z,.bool false]) ?_ ?_
      ·unfold Instr.lookup
       simp[Sem.run_bind,run_underlying hu,Result.andThen,hgo,hck,a1',hZ]
      ·simp only[Rel]
       exact⟨[Z,.bool false],rfl,by simp only[RelL,Rel];exact⟨_,_,rfl,hzr σ,_,_,rfl,rfl,rfl⟩⟩
     |false=>
      refine SV.pure hk (V:=Z) ?_ (hzr σ)
      unfold Instr.lookup
      simp[Sem.run_bind,run_underlying hu,Result.andThen,hgo,hck,a1',hZ]
    |some p=>
     obtain⟨j,v⟩:=p
     simp only[RelF]at a2
     obtain⟨V,e,hv⟩:=a2
     subst e
     cases ok with
     |true=>
      refine SV.pure hk (V:=.tuple #[V,.bool true]) ?_ ?_
      ·unfold Instr.lookup
       simp[Sem.run_bind,run_underlying hu,Result.andThen,Sem.run_pure,hgo,hck,a1']
      ·simp only[Rel]
       exact⟨[V,.bool true],rfl,by simp only[RelL,Rel];exact⟨_,_,rfl,hv,_,_,rfl,rfl,rfl⟩⟩
     |false=>
      refine SV.pure hk (V:=V) ?_ hv
      unfold Instr.lookup
      simp[Sem.run_bind,run_underlying hu,Result.andThen,Sem.run_pure,hgo,hck,a1']
  ·trivial
 ·trivial
def evSetK (c:Cx)(t:TypeId)(m k v:Option AV)(h:Tr ABlk) (nx:Nat):R:=
 match keyI c t,m,k,v with
 |some _,some (.map i),some k,some v=>match h.get i,keyEq2 k k with
  |some (.map es cl),some _=>match findK k es 0 with
   |some (some (j,_))=>.unit (h.put i (some (.map (es.modify j (fun e=>match e with |(_,_,n)=>(k,v,n))) cl))) nx
   |some none=>.unit (h.put i (some (.map (es++[(k,v,cl)]) (cl+1)))) nx
   |none=>.fail
  |_,_=>.fail
 |_,_,_,_=>.fail
theorem evSetK_ok (hc:CxOk P c)(hk:Ok c.G σ h nx w)(t:TypeId){m k v:Option AV}{M K V:Value}(hm:∀x,m=some x→Rel σ x M)(hkk:∀x,k=some x→Rel σ x K)(hv:∀x,v=some x→Rel σ x V):RU P c.G σ h nx w (Instr.mapUpdate t M K V) (evSetK c t m k v h nx):=by
 unfold evSetK
 split
 ·rename_i q0 i k v q1
  obtain⟨kt,z⟩:=q0
  obtain⟨el,et,hu,hK,Z,hZ,hzr⟩:=keyI_ok hc q1
  have hm1:=hm _ rfl
  have hk1:=hkk _ rfl
  have hv1:=hv _ rfl
  simp only[Rel]at hm1
  obtain⟨b,hb,e⟩:=hm1
  subst e
  split
  ·rename_i es cl b0 hg hkq
   obtain⟨b',E,hb',hheap,hE⟩:=hk.map hg
   rw[hb]at hb'
   cases hb'
   cases hf:findK k es 0 with
   |none=>trivial
   |some r=>
    obtain⟨R,a1,a2,a3⟩:=findK_ok hK hk1 hE hf
    have hck:=(keyEq2_ok hK hkq hk1 hk1).2.2.1
    have hgo:(getObj b).run P w=.ok (.map (List.toArray E) cl) w:=by simp[getObj,Sem.run,hheap]
    have hso:∀o:Obj,(setObj b o).run P w=.ok () (wset w b o):=fun o=>by simp[setObj,Sem.run,hheap,wset]
    have a1':=a1 w
    cases r with
    |none=>
     simp only[RelF]at a2
     subst a2
     refine⟨σ,_,?_,Post.set hk hg hb (.map (es++[(k,v,cl)]) (cl+1)) (.map (List.toArray (E++[⟨K,V,cl⟩])) (cl+1)) ?_⟩
     ·unfold Instr.mapUpdate
      simp only[Sem.run_bind,run_underlying hu,Result.andThen,hgo,hck,a1']
      rw[hso]
      simp[wset]
     ·simp only[RelB]
      refine⟨_,rfl,RelE.of_get (by simp[hE.length]) fun k0 a b n e=>?_⟩
      by_cases h1:k0<es.length
      ·rw[List.getElem?_append_left h1]at e
       obtain⟨A,B,e1,e2,e3⟩:=hE.get e
       exact⟨A,B,by rw[List.getElem?_append_left (by rw[hE.length];exact h1)];exact e1,e2,e3⟩
      ·rw[List.getElem?_append_right (by omega)]at e
       cases h2:k0-es.length with
       |succ q=>rw[h2]at e;simp at e
       |zero=>
        rw[h2]at e
        simp at e
        obtain⟨e1,e2,e3⟩:=e
        subst e1
        subst e2
        subst e3
        refine⟨K,V,?_,hk1,hv1⟩
        rw[List.getElem?_append_right (by rw[hE.length];omega),hE.length,h2]
        rfl
    |some p=>
     obtain⟨j,v0⟩:=p
     simp only[RelF]at a2
     obtain⟨V0,e,_⟩:=a2
     subst e
     obtain⟨hj,k',hk',hse⟩:=a3 j v0 rfl
     obtain⟨⟨ka,va,na⟩,hej⟩:∃p,es[j]?=some p:=⟨es[j]'hj,by simp[hj]⟩
     rw[hej]at hk'
     simp at hk'
     subst hk'
     obtain⟨KA,VA,e1,e2,e3⟩:=hE.get hej
     have hks:(Instr.keyThatStays KA K).run P w=.ok K w:=by simp[Instr.keyThatStays,(keyEq2_ok hK hse hk1 e2).2.2.2 rfl]
     refine⟨σ,_,?_,Post.set hk hg hb (.map (es.modify j (fun e=>match e with |(_,_,n)=>(k,v,n))) cl) (.map (List.toArray (E.modify j fun e=>{ e with key:=K,val:=V })) cl) ?_⟩
     ·unfold Instr.mapUpdate
      have hkey:(((List.toArray E)[j]?).map (·.key)).getD K=KA:=by simp[e1]
      simp only[Sem.run_bind,run_underlying hu,Result.andThen,hgo,hck,a1',hkey,hks]
      rw[hso]
      simp[wset]
     ·simp only[RelB]
      refine⟨_,rfl,RelE.of_get (by simp[hE.length]) fun k0 a b n e=>?_⟩
      rw[List.getElem?_modify]at e ⊢
      by_cases h1:j=k0
      ·subst h1
       rw[hej]at e
       simp at e
       obtain⟨q1,q2,q3⟩:=e
       subst q1
       subst q2
       subst q3
       exact⟨K,V,by rw[e1];simp,hk1,hv1⟩
      ·simp only[h1,if_false]at e ⊢
       simp at e
       obtain⟨A,B,c1,c2,c3⟩:=hE.get e
       exact⟨A,B,by simpa using c1,c2,c3⟩
  ·trivial
 ·trivial
end
end Go.Ev
