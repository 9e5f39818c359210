/- Texts N O2 O3 O4. -/
import Derived.Test.YtjngkeajenankaaGreatDoorP00
set_option linter.unusedSimpArgs false
set_option linter.unusedVariables false
set_option maxRecDepth 100000
namespace Go.Ev
def modN (bits:Nat):Int→Nat
 |.ofNat a=>Nat.mod a (Nat.pow 2 bits)
 |.negSucc a=>Nat.sub (Nat.sub (Nat.pow 2 bits) 1) (Nat.mod a (Nat.pow 2 bits))
theorem wrap_mod (bits:Nat) (n:Int):n % (2 ^ bits:Int)=Int.ofNat (modN bits n):=by
 have hpn:0<2 ^ bits:=Nat.pow_pos (by decide)
 cases n with
 |ofNat a=>
  show ((a:Nat):Int) % (2 ^ bits:Int)=((a % 2 ^ bits:Nat):Int)
  simp
 |negSucc a=>
  have h1:a % 2 ^ bits<2 ^ bits:=Nat.mod_lt _ hpn
  have hm:modN bits (.negSucc a)=2 ^ bits-1-a % 2 ^ bits:=rfl
  rw[hm]
  have h2:(Int.ofNat (2 ^ bits-1-a % 2 ^ bits))=(2 ^ bits:Int)-1-(a % 2 ^ bits:Nat):=by
   show ((2 ^ bits-1-a % 2 ^ bits:Nat):Int)=_
   rw[Int.natCast_sub (by omega),Int.natCast_sub (by omega)]
   simp
  have e:(Int.negSucc a)=(Int.ofNat (2 ^ bits-1-a % 2 ^ bits))+(2 ^ bits:Int) * (-(a / 2 ^ bits:Nat)-1):=by
   have:=Nat.div_add_mod a (2 ^ bits)
   rw[Int.negSucc_eq,h2]
   have h3:(a:Int)=(2 ^ bits:Int) * (a / 2 ^ bits:Nat)+(a % 2 ^ bits:Nat):=by
    have h4:((2 ^ bits * (a / 2 ^ bits)+a % 2 ^ bits:Nat):Int)=(a:Int):=by rw[this]
    rw[← h4]
    simp
   rw[Int.mul_sub,Int.mul_neg]
   omega
  have h5:(Int.ofNat (2 ^ bits-1-a % 2 ^ bits))<(2 ^ bits:Int):=by rw[h2];omega
  have h6:(0:Int)≤Int.ofNat (2 ^ bits-1-a % 2 ^ bits):=Int.natCast_nonneg _
  generalize Int.ofNat (2 ^ bits-1-a % 2 ^ bits)=q at e h5 h6
  rw[e,Int.add_mul_emod_self_left,Int.emod_eq_of_lt h6 h5]
def wrapF (k:IntKind) (n:Int):Int:=
 match k.signed with
 |false=>Int.ofNat (modN k.bits n)
 |true=>match Nat.ble (Nat.pow 2 (Nat.sub k.bits 1)) (modN k.bits n) with
  |true=>Int.negSucc (Nat.sub (Nat.sub (Nat.pow 2 k.bits) 1) (modN k.bits n))
  |false=>Int.ofNat (modN k.bits n)
theorem modN_lt (bits:Nat) (n:Int):modN bits n<2 ^ bits:=by
 have hpn:0<2 ^ bits:=Nat.pow_pos (by decide)
 cases n with
 |ofNat a=>exact Nat.mod_lt _ hpn
 |negSucc a=>show 2 ^ bits-1-a % 2 ^ bits < _;omega
theorem wrapF_eq (k:IntKind) (n:Int):wrapF k n=k.wrap n:=by
 have hm:=wrap_mod k.bits n
 have hlt:=modN_lt k.bits n
 unfold wrapF IntKind.wrap
 simp only
 rw[hm]
 generalize modN k.bits n=m at hlt
 cases hs:k.signed with
 |false=>simp
 |true=>
  simp only[Bool.true_and]
  show (match Nat.ble (2 ^ (k.bits-1)) m with
   |true=>Int.negSucc (2 ^ k.bits-1-m)
   |false=>Int.ofNat m)=_
  cases hb:Nat.ble (2 ^ (k.bits-1)) m with
  |true=>
   have h1:2 ^ (k.bits-1)≤m:=Nat.le_of_ble_eq_true hb
   have h2:((2:Int) ^ (k.bits-1))≤Int.ofNat m:=by
    show ((2:Int) ^ (k.bits-1))≤((m:Nat):Int)
    exact_mod_cast h1
   simp only[ge_iff_le,h2,decide_true,if_true]
   rw[Int.negSucc_eq]
   show _=((m:Nat):Int)-2 ^ k.bits
   have:((2 ^ k.bits-1-m:Nat):Int)=(2:Int) ^ k.bits-1-m:=by
    rw[Int.natCast_sub (by omega),Int.natCast_sub (by omega)]
    simp
   rw[this]
   omega
  |false=>
   have h1:¬2 ^ (k.bits-1)≤m:=fun hh=>by rw[Nat.ble_eq_true_of_le hh]at hb;cases hb
   have h2:¬((2:Int) ^ (k.bits-1))≤Int.ofNat m:=by
    intro hh
    apply h1
    have hh':((2:Int) ^ (k.bits-1))≤((m:Nat):Int):=hh
    exact_mod_cast hh'
   simp only[ge_iff_le,h2,decide_false,Bool.false_eq_true,if_false]
def ilt:Int→Int→Bool
 |.ofNat a,.ofNat b=>Nat.ble (Nat.succ a) b
 |.ofNat _,.negSucc _=>false
 |.negSucc _,.ofNat _=>true
 |.negSucc a,.negSucc b=>Nat.ble (Nat.succ b) a
theorem ilt_eq (x y:Int):ilt x y=decide (x<y):=by
 have nb:∀a b,Nat.ble (Nat.succ a) b=decide (a<b):=fun a b=>by
  cases e:Nat.ble (Nat.succ a) b with
  |true=>have:=Nat.le_of_ble_eq_true e;simp;omega
  |false=>
   have:¬a<b:=fun hh=>by rw[Nat.ble_eq_true_of_le hh]at e;cases e
   simp;omega
 cases x with
 |ofNat a=>
  cases y with
  |ofNat b=>rw[ilt,nb];congr 1;apply propext;show a<b↔((a:Nat):Int)<((b:Nat):Int);omega
  |negSucc b=>rw[ilt];symm;apply decide_eq_false;show ¬((a:Nat):Int)<Int.negSucc b;omega
 |negSucc a=>
  cases y with
  |ofNat b=>rw[ilt];symm;apply decide_eq_true;show Int.negSucc a<((b:Nat):Int);omega
  |negSucc b=>rw[ilt,nb];congr 1;apply propext;show b<a↔Int.negSucc a<Int.negSucc b;omega
def ieq:Int→Int→Bool
 |.ofNat a,.ofNat b=>Nat.beq a b
 |.negSucc a,.negSucc b=>Nat.beq a b
 |_,_=>false
theorem ieq_eq (x y:Int):ieq x y=(x == y):=by
 have nb:∀a b,Nat.beq a b=decide (a=b):=fun a b=>by
  cases e:Nat.beq a b with
  |true=>have:=Nat.eq_of_beq_eq_true e;simp[this]
  |false=>
   have:¬a=b:=fun hh=>by subst hh;simp at e
   simp[this]
 cases x <;> cases y <;> simp[ieq,nb] <;> first |rfl |(congr 1;apply propext;omega) |omega
end Go.Ev
namespace Go.Ev
variable {P : Program} {G : Gl} {σ τ υ : Sg} {h g f : Tr ABlk} {nx ny nz : Nat} {w x y : World}
noncomputable section
def evInt (op:BinOp)(k:IntKind) (a b:Int)(h:Tr ABlk) (nx:Nat):R:=
 let num (z:Int):R:=fI z fun z=>.val (.int k z) h nx
 let boo (c:Bool):R:=match c with |true=>.val (.bool true) h nx |false=>.val (.bool false) h nx
 match op with
 |.add=>num (wrapF k (Int.add a b))
 |.sub=>num (wrapF k (Int.sub a b))
 |.mul=>num (wrapF k (Int.mul a b))
 |.quo=>match ieq b 0 with |true=>.fail |false=>num (wrapF k (Int.tdiv a b))
 |.rem=>match ieq b 0 with |true=>.fail |false=>num (Int.tmod a b)
 |.and=>match a,b with |.ofNat a,.ofNat b=>num (wrapF k (Int.ofNat (Nat.land (Nat.mod a (Nat.pow 2 k.bits)) (Nat.mod b (Nat.pow 2 k.bits))))) |_,_=>.fail
 |.or=>match a,b with |.ofNat a,.ofNat b=>num (wrapF k (Int.ofNat (Nat.lor (Nat.mod a (Nat.pow 2 k.bits)) (Nat.mod b (Nat.pow 2 k.bits))))) |_,_=>.fail
 |.xor=>match a,b with |.ofNat a,.ofNat b=>num (wrapF k (Int.ofNat (Nat.xor (Nat.mod a (Nat.pow 2 k.bits)) (Nat.mod b (Nat.pow 2 k.bits))))) |_,_=>.fail
 |.eql=>boo (ieq a b)
 |.neq=>boo (!(ieq a b))
 |.lss=>boo (ilt a b)
 |.leq=>boo (!(ilt b a))
 |.gtr=>boo (ilt b a)
 |.geq=>boo (!(ilt a b))
 |_=>.fail
theorem evInt_ok (hk:Ok G σ h nx w)(t:TypeId)(op:BinOp)(k:IntKind) (a b:Int):RV P G σ h nx w (binOp op t (.int k a) (.int k b)) (evInt op k a b h nx):=by
 have num:∀{m:Sem Value} {z:Int},m=Pure.pure (.int k z)→RV P G σ h nx w m (fI z fun z=>.val (.int k z) h nx):=by
  intro m z e
  subst e
  rw[fI_eq]
  exact SV.pure hk rfl (by simp[Rel])
 have boo:∀{m:Sem Value} {c:Bool},m=Pure.pure (.bool c)→RV P G σ h nx w m (match c with |true=>.val (.bool true) h nx |false=>.val (.bool false) h nx):=by
  intro m c e
  subst e
  cases c <;> exact SV.pure hk rfl (by simp[Rel])
 have bv:∀(a:Nat),(BitVec.ofInt k.bits (Int.ofNat a)).toNat=a % 2 ^ k.bits:=by
  intro a
  rw[BitVec.toNat_ofInt]
  show (((a:Nat):Int) % ((2 ^ k.bits:Nat):Int)).toNat=_
  norm_cast
 unfold evInt
 cases op <;> try trivial
 ·exact num (by simp only[binOp,Op.intArith,wrapF_eq,ne_eq,not_true,if_false];rfl)
 ·exact num (by simp only[binOp,Op.intArith,wrapF_eq,ne_eq,not_true,if_false];rfl)
 ·exact num (by simp only[binOp,Op.intArith,wrapF_eq,ne_eq,not_true,if_false];rfl)
 ·simp only
  cases e:ieq b 0 with
  |true=>trivial
  |false=>
   have:b≠0:=by intro e';subst e';simp[ieq_eq]at e
   exact num (by simp[binOp,Op.intDiv,wrapF_eq,this])
 ·simp only
  cases e:ieq b 0 with
  |true=>trivial
  |false=>
   have:b≠0:=by intro e';subst e';simp[ieq_eq]at e
   exact num (by simp[binOp,Op.intDiv,this])
 ·cases a <;> cases b <;> try trivial
  refine num ?_
  simp only[binOp,Op.intBits,BitVec.toNat_and,bv,wrapF_eq,ne_eq,not_true,if_false]
  rfl
 ·cases a <;> cases b <;> try trivial
  refine num ?_
  simp only[binOp,Op.intBits,BitVec.toNat_or,bv,wrapF_eq,ne_eq,not_true,if_false]
  rfl
 ·cases a <;> cases b <;> try trivial
  refine num ?_
  simp only[binOp,Op.intBits,BitVec.toNat_xor,bv,wrapF_eq,ne_eq,not_true,if_false]
  rfl
 ·exact boo (by simp only[binOp,Op.intCmp,ne_eq,not_true,if_false,ieq_eq])
 ·exact boo (by simp only[binOp,Op.intCmp,ne_eq,not_true,if_false,ieq_eq,bne])
 ·exact boo (by simp only[binOp,Op.intCmp,ne_eq,not_true,if_false,ilt_eq])
 ·exact boo (by simp only[binOp,Op.intCmp,ne_eq,not_true,if_false,ilt_eq,← decide_not,Int.not_lt])
 ·exact boo (by simp only[binOp,Op.intCmp,ne_eq,not_true,if_false,ilt_eq,gt_iff_lt])
 ·exact boo (by simp only[binOp,Op.intCmp,ne_eq,not_true,if_false,ilt_eq,← decide_not,Int.not_lt,ge_iff_le])
def evShift (op:BinOp)(k:IntKind) (a:Int) (b:Int)(h:Tr ABlk) (nx:Nat):R:=
 match b with
 |.negSucc _=>.fail
 |.ofNat n=>
  match op with
  |.shl=>fI (wrapF k (Int.mul a (Int.ofNat (Nat.pow 2 (min n k.bits))))) fun z=>.val (.int k z) h nx
  |.shr=>match a with
   |.ofNat a=>fN (Nat.div a (Nat.pow 2 (min n k.bits))) fun z=>.val (.int k (Int.ofNat z)) h nx
   |.negSucc _=>.fail
  |_=>.fail
theorem evShift_ok (hk:Ok G σ h nx w)(t:TypeId)(op:BinOp)(k yk:IntKind) (a b:Int):RV P G σ h nx w (binOp op t (.int k a) (.int yk b)) (evShift op k a b h nx):=by
 have pw:∀n:Nat,((2:Int) ^ n)=Int.ofNat (2 ^ n):=fun n=>by show _=((2 ^ n:Nat):Int);simp
 unfold evShift
 cases b with
 |negSucc n=>trivial
 |ofNat n=>
  have hn:¬(Int.ofNat n<0):=by show ¬((n:Nat):Int)<0;omega
  cases op <;> try trivial
  ·simp only[fI_eq]
   refine SV.pure hk (V:=.int k (wrapF k (a.mul (Int.ofNat (Nat.pow 2 (min n k.bits)))))) ?_ (by simp only[Rel])
   simp only[binOp,Op.shift,if_neg hn,wrapF_eq,pw]
   rfl
  ·cases a with
   |negSucc a=>trivial
   |ofNat a=>
    simp only[fN_eq]
    refine SV.pure hk (V:=.int k (Int.ofNat (a.div (Nat.pow 2 (min n k.bits))))) ?_ (by simp only[Rel])
    have fd:∀a b:Nat,(Int.ofNat a).fdiv (Int.ofNat b)=Int.ofNat (a / b):=by
     intro a b
     cases a with
     |zero=>rw[Nat.zero_div];rfl
     |succ a=>rfl
    simp only[binOp,Op.shift,if_neg hn,pw,fd]
    rfl
def evStr (op:BinOp) (l n k m:Nat)(h:Tr ABlk) (nx:Nat):R:=
 let boo (c:Bool):R:=match c with |true=>.val (.bool true) h nx |false=>.val (.bool false) h nx
 match op with
 |.add=>match Nat.ble (Nat.add l k) 1000000000 with
  |true=>fN (Nat.add l k) fun lk=>fN (Nat.add n (Nat.mul m (Nat.pow 256 l))) fun nm=>.val (.str lk nm) h nx
  |false=>.fail
 |.eql=>boo (strEq l n k m)
 |.neq=>boo (!(strEq l n k m))
 |.lss=>boo (strLess l n k m)
 |.leq=>boo (strLess l n k m || strEq l n k m)
 |.gtr=>boo (!(strLess l n k m || strEq l n k m))
 |.geq=>boo (!(strLess l n k m))
 |_=>.fail
theorem evStr_ok (hk:Ok G σ h nx w)(t:TypeId)(op:BinOp){l n k m:Nat}(h1:n<256 ^ l)(h2:m<256 ^ k):
  RV P G σ h nx w (binOp op t (.string (strB l n)) (.string (strB k m))) (evStr op l n k m h nx):=by
 have boo:∀{m:Sem Value} {c:Bool},m=Pure.pure (.bool c)→RV P G σ h nx w m (match c with |true=>.val (.bool true) h nx |false=>.val (.bool false) h nx):=by
  intro m c e
  subst e
  cases c <;> exact SV.pure hk rfl (by simp[Rel])
 have heq:=strEq_spec h1 h2
 have hlt:=strLess_spec l n k m
 rw[← strB_list,← strB_list]at hlt
 unfold evStr
 cases op <;> try trivial
 ·simp only
  cases e:Nat.ble (Nat.add l k) 1000000000 with
  |false=>trivial
  |true=>
   have hle:l+k≤1000000000:=Nat.le_of_ble_eq_true e
   simp only[fN_eq]
   refine SV.pure hk (V:=.string (strB (l+k) (n+m * 256 ^ l))) ?_ ?_
   ·have hmax:¬(((strB l n).size+(strB k m).size:Nat):Int) > IntKind.i64.max:=by
     rw[strB_size,strB_size]
     have:IntKind.i64.max=9223372036854775807:=by decide
     rw[this]
     omega
    simp only[binOp,Op.stringOp,if_neg hmax,strB_append h1]
    rfl
   ·simp only[Rel]
    exact⟨str_append_lt h1 h2,rfl⟩
 ·exact boo (by simp only[binOp,Op.stringOp,heq])
 ·exact boo (by simp only[binOp,Op.stringOp,heq])
 ·exact boo (by simp only[binOp,Op.stringOp,hlt])
 ·exact boo (by simp only[binOp,Op.stringOp,hlt,heq])
 ·exact boo (by simp only[binOp,Op.stringOp,hlt,heq])
 ·exact boo (by simp only[binOp,Op.stringOp,hlt])
def evStrB (op:BinOp)(a b:ByteArray)(h:Tr ABlk) (nx:Nat):R:=
 match op with
 |.add=>match Nat.ble (Nat.add a.size b.size) 9223372036854775807 with
  |true=>.val (.bs (a++b)) h nx
  |false=>.fail
 |.eql=>.val (.bool (decide (a=b))) h nx
 |.neq=>.val (.bool (!(decide (a=b)))) h nx
 |.lss=>.val (.bool (Op.bytesLess a.toList b.toList)) h nx
 |.leq=>.val (.bool (Op.bytesLess a.toList b.toList || decide (a=b))) h nx
 |.gtr=>.val (.bool (!(Op.bytesLess a.toList b.toList || decide (a=b)))) h nx
 |.geq=>.val (.bool (!(Op.bytesLess a.toList b.toList))) h nx
 |_=>.fail
theorem evStrB_ok (hk:Ok G σ h nx w)(t:TypeId)(op:BinOp)(a b:ByteArray):RV P G σ h nx w (binOp op t (.string a) (.string b)) (evStrB op a b h nx):=by
 have boo:∀{m:Sem Value} {c:Bool},m=Pure.pure (.bool c)→RV P G σ h nx w m (.val (.bool c) h nx):=by
  intro m c e
  subst e
  exact SV.pure hk rfl (by simp[Rel])
 have hbe:(a.toList == b.toList)=decide (a=b):=by
  by_cases he:a=b
  ·subst he;simp
  ·have:¬a.toList=b.toList:=fun e=>he (by
    cases a;cases b
    rw[ByteArray.toList_mk,ByteArray.toList_mk]at e
    congr 1
    exact Array.ext' e)
   simp[he,this]
 unfold evStrB
 cases op <;> try trivial
 ·simp only
  cases e:Nat.ble (Nat.add a.size b.size) 9223372036854775807 with
  |false=>trivial
  |true=>
   have hle:a.size+b.size≤9223372036854775807:=Nat.le_of_ble_eq_true e
   refine SV.pure hk (V:=.string (a++b)) ?_ (by simp only[Rel])
   have hmax:¬((a.size+b.size:Nat):Int) > IntKind.i64.max:=by
    have:IntKind.i64.max=9223372036854775807:=by decide
    rw[this]
    omega
   simp only[binOp,Op.stringOp,if_neg hmax]
   rfl
 ·exact boo (by simp only[binOp,Op.stringOp,hbe])
 ·exact boo (by simp only[binOp,Op.stringOp,hbe])
 ·exact boo (by simp only[binOp,Op.stringOp])
 ·exact boo (by simp only[binOp,Op.stringOp,hbe])
 ·exact boo (by simp only[binOp,Op.stringOp,hbe])
 ·exact boo (by simp only[binOp,Op.stringOp])
def evUn (op:UnOp)(v:AV)(h:Tr ABlk) (nx:Nat):R:=
 match op with
 |.not=>match v with |.bool b=>.val (.bool (Bool.rec true false b)) h nx |_=>.fail
 |.neg=>match v with |.int k n=>fI (wrapF k (Int.sub 0 n)) fun z=>.val (.int k z) h nx |_=>.fail
 |_=>.fail
theorem evUn_ok (hk:Ok G σ h nx w)(op:UnOp){v:AV}{V:Value}(hv:Rel σ v V):RV P G σ h nx w (Op.unary op V) (evUn op v h nx):=by
 unfold evUn
 cases op <;> try trivial
 ·cases v <;> try trivial
  rename_i k n
  simp only[Rel]at hv
  subst hv
  simp only[fI_eq]
  exact SV.pure hk (V:=.int k (wrapF k (Int.sub 0 n))) (by rw[wrapF_eq];rfl) (by simp only[Rel])
 ·cases v <;> try trivial
  rename_i b
  simp only[Rel]at hv
  subst hv
  cases b with
  |true=>exact SV.pure hk (V:=.bool false) rfl (by simp only[Rel])
  |false=>exact SV.pure hk (V:=.bool true) rfl (by simp only[Rel])
end
end Go.Ev
namespace Go.Ev
variable {P : Program} {G : Gl} {σ τ υ : Sg} {h g f : Tr ABlk} {nx ny nz : Nat} {w x y : World}
noncomputable section
theorem TF.size {t:TypeId}{s:Nat}{b:Bool}(ht:TF P t s b)(w:World):(sizeOf t).run P w=.ok s w:=by
 obtain⟨⟨i,hi,hs⟩,_⟩:=ht
 rw[run_size hi,hs]
theorem TF.agg {t:TypeId}{s:Nat}{b:Bool}(ht:TF P t s b)(w:World):(isAgg t).run P w=.ok b w:=by
 obtain⟨_,d,hd,hb⟩:=ht
 rw[run_agg hd,hb]
def evFieldAddr (ti:TI)(a:AV) (k:Nat)(h:Tr ABlk) (nx:Nat):R:=
 match ti with
 |.mk d _ _ _ fs=>match d with
  |.struct _=>match fs[k]? with
   |some (o,s,_)=>match Nat.beq s 0 with
    |true=>.fail
    |false=>match a with
     |.ptr i p=>fN (Nat.add p o) fun q=>.val (.ptr i q) h nx
     |.ip cs=>.val (.ip (cs.drop o)) h nx
     |_=>.fail
   |none=>.fail
  |_=>.fail
theorem Rel.ip_drop {cs:List AV}{b p:Nat}(ha:Rel σ (.ip cs) (.pointer (some ⟨b,p,none⟩))) (o:Nat):Rel σ (.ip (cs.drop o)) (.pointer (some ⟨b,p+o,none⟩)):=by
 simp only[Rel]at ha ⊢
 obtain⟨b',o',C,L,e,h1,h2,h3⟩:=ha
 cases e
 refine⟨b,p+o,C,L.drop o,rfl,h1,h2.drop o,?_⟩
 have e3:=congrArg (List.drop o) h3
 rw[List.drop_take,List.drop_drop]at e3
 rw[List.length_drop]
 exact e3
theorem Rows.get {es:Nat}:∀{L D:List Value}{n:Nat}{X:Value},Rows es L D→L[n]?=some X→X.cells.toList=(D.drop (n * es)).take es∧X.cells.size=es
 |[],D,n,X,_,hn=>by simp at hn
 |Y::L,D,0,X,h,hn=>by
  simp at hn
  subst hn
  simp only[Rows]at h
  simpa using ⟨h.1,h.2.1⟩
 |Y::L,D,n+1,X,h,hn=>by
  simp only[Rows]at h
  have:=Rows.get h.2.2 (by simpa using hn)
  rw[List.drop_drop]at this
  rw[show (n+1) * es=es+n * es by rw[Nat.succ_mul,Nat.add_comm]]
  exact this
theorem Rel.fz_at {es n:Nat}{full:Bool}{xs:List AV}{x:AV}{A:Value}(ha:Rel σ (.fz es full xs) A)(hn:xs[n]?=some x):
  ∃b o cap,A=.slice (some ⟨b,o,none⟩) xs.length cap∧Rel σ (.ip x.cells) (.pointer (some ⟨b,o+n * es,none⟩)):=by
 simp only[Rel]at ha
 obtain⟨a,cap,e,h1,h2,h4,h3⟩:=ha
 have hlt:n<xs.length:=(List.getElem?_eq_some_iff.1 hn).1
 obtain⟨b,o,C,L,e1,i1,i2,i3⟩:=h3 (by omega)
 subst e1
 refine⟨b,o,cap,e,?_⟩
 obtain⟨X,hX,hr⟩:=i2.get hn
 obtain⟨c1,c2⟩:=i3.get hX
 simp only[Rel]
 refine⟨b,o+n * es,C,X.cells.toList,rfl,i1,hr.cells,?_⟩
 rw[List.drop_drop]at c1
 rw[Array.length_toList,c2]
 exact c1
theorem evFieldAddr_ok (hk:Ok G σ h nx w)(t:TypeId){ti:TI}(ht:TIok P t ti){a:AV}{A:Value}(ha:Rel σ a A) (k:Nat):RV P G σ h nx w (Instr.fieldAt t A k) (evFieldAddr ti a k h nx):=by
 cases ti with
 |mk d size bytes zero fs=>
 obtain⟨hu,inf,hi,hs,hby,hzz,hf,hfl0,hel⟩:=ht
 unfold evFieldAddr
 cases d <;> try trivial
 rename_i fields
 simp only
 split
 ·rename_i o s b hfk
  obtain⟨fl,hfl,ho,htf⟩:=hf fields rfl k o s b hfk
  cases e0:Nat.beq s 0 with
  |true=>trivial
  |false=>
   have hs0:¬s=0:=fun e=>by subst e;simp at e0
   cases a <;> try trivial
   case ip cs=>
    have ha':=ha
    simp only[Rel]at ha'
    obtain⟨bb,p,_,_,e,_⟩:=ha'
    subst e
    refine SV.pure hk (V:=.pointer (some ⟨bb,p+o,none⟩)) ?_ (ha.ip_drop o)
    simp[Instr.fieldAt,run_underlying hu,hfl,Instr.sureAddr,fieldPlace,htf.size,hs0,ho,addr_add]
   rename_i i p
   simp only[Rel]at ha
   obtain⟨bb,hb,e⟩:=ha
   subst e
   simp only[fN_eq]
   refine SV.pure hk (V:=.pointer (some ⟨bb,p+o,none⟩)) ?_ ?_
   ·simp[Instr.fieldAt,run_underlying hu,hfl,Instr.sureAddr,fieldPlace,htf.size,hs0,ho,addr_add]
   ·simp only[Rel];exact⟨bb,hb,rfl⟩
 ·trivial
def partL (l:List AV) (o s:Nat)(b:Bool):Option AV:=
 match b with
 |true=>match Nat.ble (Nat.add o s) l.length with
  |true=>some (.agg ((l.drop o).take s))
  |false=>none
 |false=>l[o]?
theorem partL_ok {t:TypeId}{s:Nat}{b:Bool}(ht:TF P t s b){l:List AV}{L:List Value}(hl:RelL σ l L){o:Nat}{v:AV}(hp:partL l o s b=some v)(w:World):
  ∃V,(part t L.toArray o).run P w=.ok V w∧Rel σ v V:=by
 unfold partL at hp
 cases b with
 |false=>
  simp only at hp
  obtain⟨V,h1,h2⟩:=hl.get hp
  exact⟨V,by simp[part,ht.agg,h1],h2⟩
 |true=>
  simp only at hp
  split at hp
  ·rename_i hle
   have hle':o+s≤l.length:=Nat.le_of_ble_eq_true hle
   cases hp
   refine⟨.agg ((L.drop o).take s).toArray,?_,?_⟩
   ·simp[part,ht.agg,ht.size]
   ·simp only[Rel]
    refine⟨_,rfl,RelL.of_get (by simp[hl.length]) fun k v V h1 h2=>?_⟩
    have hks:k<s:=by
     rcases Nat.lt_or_ge k s with h3 |h3
     ·exact h3
     ·rw[List.getElem?_eq_none (by simp;omega)]at h1;cases h1
    rw[List.getElem?_take_of_lt hks,List.getElem?_drop]at h1 h2
    obtain⟨V',e1,e2⟩:=hl.get h1
    rw[h2]at e1
    cases e1
    exact e2
  ·cases hp
def evField (ti:TI)(a:AV) (k:Nat)(h:Tr ABlk) (nx:Nat):R:=
 match ti with
 |.mk d _ _ _ fs=>match d with
  |.struct _=>match fs[k]? with
   |some (o,s,b)=>match a with
    |.agg l=>match partL l o s b with
     |some v=>.val v h nx
     |none=>.fail
    |_=>.fail
   |none=>.fail
  |_=>.fail
theorem evField_ok (hk:Ok G σ h nx w)(t:TypeId){ti:TI}(ht:TIok P t ti){a:AV}{A:Value}(ha:Rel σ a A) (k:Nat):RV P G σ h nx w (Instr.field t A k) (evField ti a k h nx):=by
 cases ti with
 |mk d size bytes zero fs=>
 obtain⟨hu,inf,hi,hs,hby,hzz,hf,hfl0,hel⟩:=ht
 unfold evField
 cases d <;> try trivial
 rename_i fields
 simp only
 split
 ·rename_i o s b hfk
  obtain⟨fl,hfl,ho,htf⟩:=hf fields rfl k o s b hfk
  cases a <;> try trivial
  rename_i l
  simp only[Rel]at ha
  obtain⟨L,e,hl⟩:=ha
  subst e
  simp only
  cases hp:partL l o s b with
  |none=>trivial
  |some v=>
   obtain⟨V,hV,hr⟩:=partL_ok htf hl hp w
   refine SV.pure hk (V:=V) ?_ hr
   simp[Instr.field,run_underlying hu,hfl,asAgg,ho,hV]
 ·trivial
def idx:AV→Option Nat
 |.int _ (.ofNat n)=>some n
 |_=>none
theorem idx_ok {v:AV}{V:Value}{n:Nat}(hv:Rel σ v V)(hi:idx v=some n):∃k,V=.int k (n:Int):=by
 cases v <;> try (simp[idx]at hi;done)
 rename_i k m
 cases m with
 |negSucc m=>simp[idx]at hi
 |ofNat m=>
  simp only[idx,Option.some.injEq]at hi
  subst hi
  simp only[Rel]at hv
  exact⟨k,hv⟩
def evIndexAddr (ti:TI)(a ix:AV)(h:Tr ABlk) (nx:Nat):R:=
 match ti with
 |.mk d _ _ _ fs=>match idx ix with
  |none=>.fail
  |some n=>match fs with
   |[]=>.fail
   |(_,s,_)::_=>match d with
    |.slice _=>match a with
     |.sl i o l _ _=>match Nat.ble (Nat.succ n) l with
      |true=>fN (Nat.add o (Nat.mul n s)) fun q=>.val (.ptr i q) h nx
      |false=>.fail
     |.fz es _ xs=>match Nat.beq es s with
      |true=>match xs[n]? with
       |some x=>.val (.ip x.cells) h nx
       |none=>.fail
      |false=>.fail
     |_=>.fail
    |.array l _=>match a with
     |.ptr i o=>match Nat.ble (Nat.succ n) l with
      |true=>fN (Nat.add o (Nat.mul n s)) fun q=>.val (.ptr i q) h nx
      |false=>.fail
     |.ip cs=>match Nat.ble (Nat.succ n) l with
      |true=>.val (.ip (cs.drop (Nat.mul n s))) h nx
      |false=>.fail
     |_=>.fail
    |_=>.fail
theorem evIndexAddr_ok (hk:Ok G σ h nx w)(t:TypeId){ti:TI}(ht:TIok P t ti){a ix:AV}{A I:Value}(ha:Rel σ a A)(hix:Rel σ ix I):RV P G σ h nx w (Instr.indexAt t A I) (evIndexAddr ti a ix h nx):=by
 cases ti with
 |mk d size bytes zero fs=>
 obtain⟨hu,inf,hi,hs,hby,hzz,hff,hfl0,he⟩:=ht
 unfold evIndexAddr
 simp only
 cases hn:idx ix with
 |none=>trivial
 |some n=>
 obtain⟨k,e⟩:=idx_ok hix hn
 subst e
 cases fs with
 |nil=>trivial
 |cons p fs=>
 obtain⟨o0,s,b0⟩:=p
 cases d <;> try trivial
 ·rename_i elem
  have htf:=he elem (.inl rfl) o0 s b0 rfl
  cases a <;> try trivial
  case fz es full xs=>
   simp only
   cases hes:Nat.beq es s with
   |false=>trivial
   |true=>
    simp only
    cases hx:xs[n]? with
    |none=>trivial
    |some x=>
     have hes':=Nat.eq_of_beq_eq_true hes
     subst hes'
     obtain⟨b,o,cap,e,hr⟩:=ha.fz_at hx
     subst e
     have hlt:n<xs.length:=(List.getElem?_eq_some_iff.1 hx).1
     refine SV.pure hk (V:=.pointer (some ⟨b,o+n * es,none⟩)) ?_ hr
     have h1:(0:Int)≤n∧(n:Int)<xs.length:=by omega
     simp[Instr.indexAt,asIntOf,run_underlying hu,h1,htf.size,addr_add,hlt]
  rename_i i o l c opn
  simp only[Rel]at ha
  obtain⟨bb,hb,e,_⟩:=ha
  subst e
  simp only
  cases hle:Nat.ble (Nat.succ n) l with
  |false=>trivial
  |true=>
   have hlt:n<l:=Nat.le_of_ble_eq_true hle
   simp only[fN_eq]
   refine SV.pure hk (V:=.pointer (some ⟨bb,o+n * s,none⟩)) ?_ ?_
   ·have h1:(0:Int)≤n∧(n:Int)<l:=by omega
    simp[Instr.indexAt,asIntOf,run_underlying hu,h1,htf.size,addr_add,hlt]
   ·simp only[Rel];exact⟨bb,hb,rfl⟩
 ·rename_i l elem
  have htf:=he elem (.inr (.inl ⟨l,rfl⟩)) o0 s b0 rfl
  cases a <;> try trivial
  case ip cs=>
   simp only
   cases hle:Nat.ble (Nat.succ n) l with
   |false=>trivial
   |true=>
    have hlt:n<l:=Nat.le_of_ble_eq_true hle
    have ha':=ha
    simp only[Rel]at ha'
    obtain⟨bb,p,_,_,e,_⟩:=ha'
    subst e
    refine SV.pure hk (V:=.pointer (some ⟨bb,p+n * s,none⟩)) ?_ (ha.ip_drop _)
    have h1:(0:Int)≤n∧(n:Int)<l:=by omega
    simp[Instr.indexAt,asIntOf,run_underlying hu,Instr.sureAddr,h1,htf.size,addr_add,hlt]
  rename_i i o
  simp only[Rel]at ha
  obtain⟨bb,hb,e⟩:=ha
  subst e
  simp only
  cases hle:Nat.ble (Nat.succ n) l with
  |false=>trivial
  |true=>
   have hlt:n<l:=Nat.le_of_ble_eq_true hle
   simp only[fN_eq]
   refine SV.pure hk (V:=.pointer (some ⟨bb,o+n * s,none⟩)) ?_ ?_
   ·have h1:(0:Int)≤n∧(n:Int)<l:=by omega
    simp[Instr.indexAt,asIntOf,run_underlying hu,Instr.sureAddr,h1,htf.size,addr_add,hlt]
   ·simp only[Rel];exact⟨bb,hb,rfl⟩
def evIndex (ti:TI)(a ix:AV)(h:Tr ABlk) (nx:Nat):R:=
 match ti with
 |.mk d _ _ _ fs=>match idx ix with
  |none=>.fail
  |some n=>match d with
   |.string=>match a with
    |.str l m=>match Nat.ble (Nat.succ n) l with
     |true=>fN (Nat.mod (Nat.div m (Nat.pow 256 n)) 256) fun z=>.val (.int .u8 (Int.ofNat z)) h nx
     |false=>.fail
    |.bs b=>match b[n]? with
     |some c=>.val (.int .u8 (Int.ofNat c.toNat)) h nx
     |none=>.fail
    |_=>.fail
   |.array len _=>match fs with
    |[]=>.fail
    |(_,s,b)::_=>match a with
     |.agg l=>match Nat.ble (Nat.succ n) len with
      |true=>match partL l (Nat.mul n s) s b with
       |some v=>.val v h nx
       |none=>.fail
      |false=>.fail
     |_=>.fail
   |_=>.fail
theorem evIndex_ok (hk:Ok G σ h nx w)(t:TypeId){ti:TI}(ht:TIok P t ti){a ix:AV}{A I:Value}(ha:Rel σ a A)(hix:Rel σ ix I):RV P G σ h nx w (Instr.index t A I) (evIndex ti a ix h nx):=by
 cases ti with
 |mk d size bytes zero fs=>
 obtain⟨hu,inf,hi,hs,hby,hzz,hff,hfl0,he⟩:=ht
 unfold evIndex
 simp only
 cases hn:idx ix with
 |none=>trivial
 |some n=>
 obtain⟨k,e⟩:=idx_ok hix hn
 subst e
 cases d <;> try trivial
 ·cases a <;> try trivial
  case bs b=>
   simp only[Rel]at ha
   subst ha
   simp only
   cases hb:b[n]? with
   |none=>trivial
   |some z=>
    refine SV.pure hk (V:=.int .u8 (Int.ofNat z.toNat)) ?_ (by simp only[Rel])
    have h1:(0:Int)≤n:=by omega
    simp[Instr.index,asIntOf,run_underlying hu,hb]
  rename_i l m
  simp only[Rel]at ha
  obtain⟨hm,e⟩:=ha
  subst e
  simp only
  cases hle:Nat.ble (Nat.succ n) l with
  |false=>trivial
  |true=>
   have hlt:n<l:=Nat.le_of_ble_eq_true hle
   simp only[fN_eq]
   refine SV.pure hk (V:=.int .u8 (Int.ofNat (m / 256 ^ n % 256))) ?_ ?_
   ·have h1:(0:Int)≤n:=by omega
    have h2:(UInt8.ofNat (m / 256 ^ n % 256)).toNat=m / 256 ^ n % 256:=u8 (Nat.mod_lt _ (by decide))
    simp[Instr.index,asIntOf,run_underlying hu,strB_get hlt,h2]
   ·simp only[Rel];rfl
 ·rename_i len elem
  cases fs with
  |nil=>trivial
  |cons p fs=>
  obtain⟨o0,s,b0⟩:=p
  have htf:=he elem (.inr (.inl ⟨len,rfl⟩)) o0 s b0 rfl
  cases a <;> try trivial
  rename_i l
  simp only[Rel]at ha
  obtain⟨L,e,hl⟩:=ha
  subst e
  simp only
  cases hle:Nat.ble (Nat.succ n) len with
  |false=>trivial
  |true=>
   have hlt:n<len:=Nat.le_of_ble_eq_true hle
   simp only
   cases hp:partL l (Nat.mul n s) s b0 with
   |none=>trivial
   |some v=>
    obtain⟨V,hV,hr⟩:=partL_ok htf hl hp w
    refine SV.pure hk (V:=V) ?_ hr
    have h1:(0:Int)≤n∧(n:Int)<len:=by omega
    have hV':(part elem L.toArray (n * s)).run P w=.ok V w:=hV
    simp[Instr.index,asIntOf,run_underlying hu,h1,htf.size,hlt,hV']
def evExtract (a:AV) (k:Nat)(h:Tr ABlk) (nx:Nat):R:=
 match a with
 |.tup l=>match l[k]? with
  |some v=>.val v h nx
  |none=>.fail
 |_=>.fail
theorem evExtract_ok (hk:Ok G σ h nx w){a:AV}{A:Value}(ha:Rel σ a A) (k:Nat):RV P G σ h nx w (Instr.extract A k) (evExtract a k h nx):=by
 unfold evExtract
 cases a <;> try trivial
 rename_i l
 simp only[Rel]at ha
 obtain⟨L,e,hl⟩:=ha
 subst e
 simp only
 cases hv:l[k]? with
 |none=>trivial
 |some v=>
  obtain⟨V,h1,h2⟩:=hl.get hv
  exact SV.pure hk (V:=V) (by simp[Instr.extract,h1]) h2
def evIface (ti:TI)(t:TypeId)(v:AV)(h:Tr ABlk) (nx:Nat):R:=
 match ti with
 |.mk d _ _ _ _=>match d with
  |.interface _=>.fail
  |_=>.val (.iface t v) h nx
theorem evIface_ok (hk:Ok G σ h nx w)(t:TypeId){ti:TI}(ht:TIok P t ti){v:AV}{V:Value}(hv:Rel σ v V):RV P G σ h nx w (Instr.makeInterface t V) (evIface ti t v h nx):=by
 cases ti with
 |mk d size bytes zero fs=>
 obtain⟨hu,_⟩:=ht
 have hr:Rel σ (.iface t v) (.iface t V):=by simp only[Rel];exact⟨V,rfl,hv⟩
 unfold evIface
 cases d <;> first
  |trivial
  |exact SV.pure hk (V:=.iface t V) (by simp[Instr.makeInterface,run_underlying hu]) hr
def evMakeMap (h:Tr ABlk) (nx:Nat):R:=
 h.putK (some (.map [] 0)) nx fun h'=>fN (Nat.succ nx) fun nx'=>.val (.map nx) h' nx'
theorem evMakeMap_ok (hk:Ok G σ h nx w)(t:TypeId):RV P G σ h nx w (Instr.makeMap t none) (evMakeMap h nx):=by
 simp only[evMakeMap,Tr.putK_eq,fN_eq]
 refine⟨.map (some w.heap.size),_,_,?_,?_,Post.alloc hk 0 (.map [] 0) (.map #[] 0) ?_⟩
 ·simp[Instr.makeMap,newObj,Sem.run]
 ·simp only[Rel];exact⟨w.heap.size,by simp[Sg.add],rfl⟩
 ·simp only[RelB]
  exact⟨[],rfl,by simp only[RelE]⟩
end
end Go.Ev
namespace Go.Ev
variable {P : Program} {G : Gl} {σ τ υ : Sg} {h g f : Tr ABlk} {nx ny nz : Nat} {w x y : World}
noncomputable section
def MxOk (cap m:Nat):Option Value→Prop
 |none=>m=cap
 |some V=>(∃k,V=.int k (m:Int))∧m≤cap
def HiOk (len hh m:Nat)(MX:Option Value):Option Value→Prop
 |none=>hh=len∧MX=none
 |some V=>(∃k,V=.int k (hh:Int))∧hh≤m
def LoOk (l hh:Nat):Option Value→Prop
 |none=>l=0
 |some V=>(∃k,V=.int k (l:Int))∧l≤hh
theorem run_sliceBounds (isSl:Bool) (len cap:Nat){lo hi mx:Option Value}{l hh m:Nat}
  (hm:MxOk cap m mx) (hhi:HiOk len hh m mx hi) (hlo:LoOk l hh lo) (w:World):
  (Instr.sliceBounds isSl len cap lo hi mx).run P w=.ok (l,hh,m) w:=by
 have sb:∀(k:IntKind) (n y:Nat) (c:BoundsCode),n≤y→(Instr.sliceBound (.int k (n:Int)) y c).run P w=.ok n w:=by
  intro k n y c hle
  have h1:(0:Int)≤n∧(n:Int)≤y:=by omega
  simp[Instr.sliceBound,asIntOf,hle]
 unfold Instr.sliceBounds
 cases mx with
 |none=>
  simp only[MxOk]at hm
  subst hm
  cases hi with
  |none=>
   simp only[HiOk]at hhi
   obtain⟨e,_⟩:=hhi
   subst e
   cases lo with
   |none=>simp only[LoOk]at hlo;subst hlo;simp
   |some V=>
    simp only[LoOk]at hlo
    obtain⟨⟨k,e⟩,hle⟩:=hlo
    subst e
    simp[sb _ _ _ _ hle]
  |some V=>
   simp only[HiOk]at hhi
   obtain⟨⟨k,e⟩,hle⟩:=hhi
   subst e
   cases lo with
   |none=>simp only[LoOk]at hlo;subst hlo;simp[sb _ _ _ _ hle]
   |some V=>
    simp only[LoOk]at hlo
    obtain⟨⟨k,e⟩,hle2⟩:=hlo
    subst e
    simp[sb _ _ _ _ hle,sb _ _ _ _ hle2]
 |some M=>
  simp only[MxOk]at hm
  obtain⟨⟨k0,e⟩,hle0⟩:=hm
  subst e
  cases hi with
  |none=>simp[HiOk]at hhi
  |some V=>
   simp only[HiOk]at hhi
   obtain⟨⟨k,e⟩,hle⟩:=hhi
   subst e
   cases lo with
   |none=>simp only[LoOk]at hlo;subst hlo;simp[sb _ _ _ _ hle,sb _ _ _ _ hle0]
   |some V=>
    simp only[LoOk]at hlo
    obtain⟨⟨k,e⟩,hle2⟩:=hlo
    subst e
    simp[sb _ _ _ _ hle,sb _ _ _ _ hle2,sb _ _ _ _ hle0]
def oidx (d:Nat):Option AV→Option Nat
 |none=>some d
 |some v=>idx v
def RelO (σ:Sg):Option AV→Option Value→Prop
 |none,none=>True
 |some v,some V=>Rel σ v V
 |_,_=>False
def bnds (len cap:Nat)(lo hi mx:Option AV):Option (Nat×Nat×Nat):=
 match oidx cap mx with
 |none=>none
 |some m=>match Nat.ble m cap with
  |false=>none
  |true=>match oidx len hi with
   |none=>none
   |some hh=>match Nat.ble hh m with
    |false=>none
    |true=>match oidx 0 lo with
     |none=>none
     |some l=>match Nat.ble l hh with
      |false=>none
      |true=>match mx,hi with
       |some _,none=>none
       |_,_=>some (l,hh,m)
theorem bnds_ok {len cap:Nat}{lo hi mx:Option AV}{LO HI MX:Option Value}(h1:RelO σ lo LO)(h2:RelO σ hi HI)(h3:RelO σ mx MX){l hh m:Nat}(hb:bnds len cap lo hi mx=some (l,hh,m)):
  l≤hh∧hh≤m∧m≤cap∧(mx=none→m=cap)∧MxOk cap m MX∧HiOk len hh m MX HI∧LoOk l hh LO:=by
 unfold bnds at hb
 split at hb
 ·cases hb
 ·rename_i m' hm
  split at hb
  ·cases hb
  ·rename_i hble
   have e1:=Nat.le_of_ble_eq_true hble
   split at hb
   ·cases hb
   ·rename_i hh' hhh
    split at hb
    ·cases hb
    ·rename_i hble2
     have e2:=Nat.le_of_ble_eq_true hble2
     split at hb
     ·cases hb
     ·rename_i l' hl
      split at hb
      ·cases hb
      ·rename_i hble3
       have e3:=Nat.le_of_ble_eq_true hble3
       have fin:(l',hh',m')=(l,hh,m)∧¬(mx.isSome=true∧hi=none):=by
        cases mx <;> cases hi <;> first |(cases hb;done) |(cases hb;exact⟨rfl,by simp⟩)
       obtain⟨fin,hno⟩:=fin
       cases fin
       refine⟨e3,e2,e1,?_,?_,?_,?_⟩
       ·intro e;subst e;simpa[oidx]using hm.symm
       ·cases mx <;> cases MX <;> simp only[RelO]at h3
        ·simpa[oidx,MxOk]using hm.symm
        ·exact⟨idx_ok h3 (by simpa[oidx]using hm),e1⟩
       ·cases hi <;> cases HI <;> simp only[RelO]at h2
        ·refine⟨by simpa[oidx]using hhh.symm,?_⟩
         cases mx with
         |none=>cases MX with |none=>rfl |some V=>simp only[RelO]at h3
         |some v=>simp at hno
        ·exact⟨idx_ok h2 (by simpa[oidx]using hhh),e2⟩
       ·cases lo <;> cases LO <;> simp only[RelO]at h1
        ·simpa[oidx,LoOk]using hl.symm
        ·exact⟨idx_ok h1 (by simpa[oidx]using hl),e3⟩
def evSlice (ti:TI)(a:AV)(lo hi mx:Option AV)(h:Tr ABlk) (nx:Nat):R:=
 match ti with
 |.mk d _ _ _ fs=>match d with
  |.string=>match a with
   |.str len n=>match mx with
    |some _=>.fail
    |none=>match bnds len len lo hi none with
     |some (l,hh,_)=>fN (Nat.sub hh l) fun k=>fN (Nat.mod (Nat.div n (Nat.pow 256 l)) (Nat.pow 256 k)) fun m=>.val (.str k m) h nx
     |none=>.fail
   |.bs b=>match mx with
    |some _=>.fail
    |none=>match bnds b.size b.size lo hi none with
     |some (l,hh,_)=>.val (.bs (b.extract l hh)) h nx
     |none=>.fail
   |_=>.fail
  |.slice _=>match fs with
   |[]=>.fail
   |(_,s,_)::_=>match a with
    |.sl0=>match bnds 0 0 lo hi mx with
     |some (_,_,_)=>.val .sl0 h nx
     |none=>.fail
    |.fz es full xs=>match Nat.beq es s with
     |false=>.fail
     |true=>match mx with
      |some _=>match bnds xs.length xs.length lo hi mx with
       |some (l,hh,m)=>.val (.fz es (Nat.beq hh m) ((xs.drop l).take (Nat.sub hh l))) h nx
       |none=>.fail
      |none=>match bnds xs.length xs.length lo hi none with
       |some (l,hh,_)=>.val (.fz es (match full with |true=>Nat.beq hh xs.length |false=>false) ((xs.drop l).take (Nat.sub hh l))) h nx
       |none=>.fail
    |.sl i o len c false=>match bnds len c lo hi mx with
     |some (l,hh,m)=>fN (Nat.sub hh l) fun k=>fN (Nat.sub m l) fun c'=>match Nat.beq m l with
      |true=>.val (.sl i o k c' false) h nx
      |false=>fN (Nat.add o (Nat.mul l s)) fun o'=>.val (.sl i o' k c' false) h nx
     |none=>.fail
    |.sl i o len c true=>match mx with
     |some _=>match bnds len len lo hi mx with
      |some (l,hh,m)=>fN (Nat.sub hh l) fun k=>fN (Nat.sub m l) fun c'=>match Nat.beq m l with
       |true=>.val (.sl i o k c' false) h nx
       |false=>fN (Nat.add o (Nat.mul l s)) fun o'=>.val (.sl i o' k c' false) h nx
      |none=>.fail
     |none=>match bnds len len lo hi none with
      |some (l,hh,_)=>fN (Nat.sub hh l) fun k=>fN (Nat.add c l) fun c'=>match Nat.beq l 0 with
       |true=>.val (.sl i o k c' true) h nx
       |false=>match Nat.ble (Nat.succ l) len with
        |true=>fN (Nat.add o (Nat.mul l s)) fun o'=>.val (.sl i o' k c' true) h nx
        |false=>.fail
      |none=>.fail
    |_=>.fail
  |.array n _=>match fs with
   |[]=>.fail
   |(_,s,_)::_=>match a with
    |.ptr i o=>match bnds n n lo hi mx with
     |some (l,hh,m)=>fN (Nat.sub hh l) fun k=>fN (Nat.sub m l) fun c'=>match Nat.beq m l with
      |true=>.val (.sl i o k c' false) h nx
      |false=>fN (Nat.add o (Nat.mul l s)) fun o'=>.val (.sl i o' k c' false) h nx
     |none=>.fail
    |_=>.fail
  |_=>.fail
theorem beq_false {a b:Nat}(e:Nat.beq a b=false):a≠b:=fun e'=>by subst e';simp at e
theorem Rows.drop {es:Nat}:∀{L D:List Value}(n:Nat),Rows es L D→Rows es (L.drop n) (D.drop (n * es))
 |L,D,0,h=>by simpa using h
 |[],D,n+1,h=>by simp[Rows]
 |Y::L,D,n+1,h=>by
  simp only[Rows]at h
  have:=Rows.drop n h.2.2
  rw[List.drop_drop]at this
  rw[show (n+1) * es=es+n * es by rw[Nat.succ_mul,Nat.add_comm]]
  exact this
theorem Rows.take {es:Nat}:∀{L D:List Value}(n:Nat),Rows es L D→Rows es (L.take n) D
 |L,D,0,h=>by simp[Rows]
 |[],D,n+1,h=>by simp[Rows]
 |Y::L,D,n+1,h=>by
  simp only[Rows,List.take_succ_cons]at h ⊢
  exact⟨h.1,h.2.1,h.2.2.take n⟩
theorem Rel.fz_part {es:Nat}{full:Bool}{xs:List AV}{a:Option Addr}{n cap:Nat}(ha:Rel σ (.fz es full xs) (.slice a n cap)){l hh m:Nat}(e1:l≤hh)(e2:hh≤xs.length)(e3:hh≤m)(full':Bool)(hf:full'=true→hh=m)(a':Option Addr)
  (e4:l<hh→a'=a.map (·.add (l * es))) (e5:a'=none→m=l):Rel σ (.fz es full' ((xs.drop l).take (hh-l))) (.slice a' (hh-l) (m-l)):=by
 simp only[Rel]at ha ⊢
 obtain⟨a0,cap0,e,h1,h2,h4,h3⟩:=ha
 cases e
 have hlen:((xs.drop l).take (hh-l)).length=hh-l:=by simp;omega
 refine⟨a',m-l,by rw[hlen],by rw[hlen];omega,fun h=>by rw[hlen,hf h],fun h=>by rw[e5 h];omega,fun h=>?_⟩
 ·rw[hlen]at h
  obtain⟨b,o,C,L,ea,i1,i2,i3⟩:=h3 (by omega)
  subst ea
  have e4:=e4 (by omega)
  simp only[Option.map_some,addr_add]at e4
  refine⟨b,o+l * es,C,(L.drop l).take (hh-l),e4,i1,(i2.drop l).take _,?_⟩
  have:=(i3.drop l).take (hh-l)
  rw[List.drop_drop]at this
  exact this
theorem evSlice_ok (hk:Ok G σ h nx w)(t:TypeId){ti:TI}(ht:TIok P t ti){a:AV}{A:Value}(ha:Rel σ a A){lo hi mx:Option AV}{LO HI MX:Option Value}
  (h1:RelO σ lo LO) (h2:RelO σ hi HI) (h3:RelO σ mx MX):RV P G σ h nx w (Instr.sliceAt t A LO HI MX) (evSlice ti a lo hi mx h nx):=by
 cases ti with
 |mk d size bytes zero fs=>
 obtain⟨hu,inf,hi',hs,hby,hzz,hff,hfl0,he⟩:=ht
 unfold evSlice
 cases d <;> try trivial
 ·
  cases a <;> try trivial
  case bs b=>
   simp only[Rel]at ha
   subst ha
   cases mx with
   |some v=>trivial
   |none=>
    simp only
    cases hb:bnds b.size b.size lo hi none with
    |none=>trivial
    |some p=>
     obtain⟨l,hh,m⟩:=p
     obtain⟨e1,e2,e3,e4,q1,q2,q3⟩:=bnds_ok h1 h2 h3 hb
     have hmx:MX=none:=by cases MX with |none=>rfl |some V=>simp only[RelO]at h3
     subst hmx
     have hsb:=run_sliceBounds (P:=P) false b.size b.size q1 q2 q3 w
     refine SV.pure hk (V:=.string (b.extract l hh)) ?_ (by simp only[Rel])
     simp[Instr.sliceAt,run_underlying hu,Instr.slice,hsb]
  rename_i len n
  simp only[Rel]at ha
  obtain⟨hn,e⟩:=ha
  subst e
  cases mx with
  |some v=>trivial
  |none=>
   simp only
   cases hb:bnds len len lo hi none with
   |none=>trivial
   |some p=>
    obtain⟨l,hh,m⟩:=p
    obtain⟨e1,e2,e3,e4,q1,q2,q3⟩:=bnds_ok h1 h2 h3 hb
    have hmx:MX=none:=by cases MX with |none=>rfl |some V=>simp only[RelO]at h3
    subst hmx
    simp only[fN_eq]
    have hsb:=run_sliceBounds (P:=P) false len len q1 q2 q3 w
    refine SV.pure hk (V:=.string (strB (hh-l) (n / 256 ^ l % 256 ^ (hh-l)))) ?_ ?_
    ·simp[Instr.sliceAt,run_underlying hu,Instr.slice,strB_size,hsb,strB_extract (show hh≤len by omega)]
    ·simp only[Rel]
     exact⟨Nat.mod_lt _ (Nat.pow_pos (by decide)),rfl⟩
 ·
  rename_i elem
  cases fs with
  |nil=>trivial
  |cons p fs=>
  obtain⟨o0,s,b0⟩:=p
  have htf:=he elem (.inl rfl) o0 s b0 rfl
  cases a <;> try trivial
  case fz es full xs=>
   simp only
   cases hes:Nat.beq es s with
   |false=>trivial
   |true=>
    have hes':=Nat.eq_of_beq_eq_true hes
    subst hes'
    have ha':=ha
    simp only[Rel]at ha'
    obtain⟨a,cap,e,g1,g2,g4,_⟩:=ha'
    subst e
    simp only
    cases mx with
    |some v=>
     simp only
     cases hb:bnds xs.length xs.length lo hi (some v) with
     |none=>trivial
     |some p=>
      obtain⟨l,hh,m⟩:=p
      obtain⟨e1,e2,e3,e4,q1,q2,q3⟩:=bnds_ok h1 h2 h3 hb
      have q1':MxOk cap m MX:=by
       cases MX with
       |none=>simp only[RelO]at h3
       |some V=>exact⟨q1.1,by omega⟩
      have hsb:=run_sliceBounds (P:=P) true xs.length cap q1' q2 q3 w
      refine SV.pure hk (V:=.slice (if m=l then a else a.map (·.add (l * es))) (hh-l) (m-l)) ?_ ?_
      ·by_cases hml:m=l
       ·subst hml
        simp[Instr.sliceAt,run_underlying hu,Instr.slice,hsb,htf.size]
       ·cases a with
        |none=>exact absurd (g4 rfl) (by omega)
        |some a=>simp[Instr.sliceAt,run_underlying hu,Instr.slice,hsb,htf.size,hml]
      ·refine ha.fz_part e1 (by omega) (by omega) _ (fun h=>Nat.eq_of_beq_eq_true h) _ (fun hl=>?_) (fun hn=>?_)
       ·rw[if_neg (by omega)]
       ·by_cases hml:m=l
        ·exact hml
        ·rw[if_neg hml]at hn
         cases a with
         |none=>exact absurd (g4 rfl) (by omega)
         |some a=>simp at hn
    |none=>
     simp only
     cases hb:bnds xs.length xs.length lo hi none with
     |none=>trivial
     |some p=>
      obtain⟨l,hh,m⟩:=p
      obtain⟨e1,e2,e3,e4,q1,q2,q3⟩:=bnds_ok h1 h2 h3 hb
      have hmx:MX=none:=by cases MX with |none=>rfl |some V=>simp only[RelO]at h3
      subst hmx
      have q2':HiOk xs.length hh cap none HI:=by
       cases HI with
       |none=>exact q2
       |some V=>exact⟨q2.1,by omega⟩
      have hsb:=run_sliceBounds (P:=P) true xs.length cap (mx:=none) (m:=cap) (show MxOk _ _ none from rfl) q2' q3 w
      refine SV.pure hk (V:=.slice (if cap=l then a else a.map (·.add (l * es))) (hh-l) (cap-l)) ?_ ?_
      ·by_cases hml:cap=l
       ·subst hml
        simp[Instr.sliceAt,run_underlying hu,Instr.slice,hsb,htf.size]
       ·cases a with
        |none=>exact absurd (g4 rfl) (by omega)
        |some a=>simp[Instr.sliceAt,run_underlying hu,Instr.slice,hsb,htf.size,hml]
      ·refine ha.fz_part e1 (by omega) (by omega) _ (fun h=>?_) _ (fun hl=>?_) (fun hn=>?_)
       ·cases full with
        |false=>simp at h
        |true=>
         have:=Nat.eq_of_beq_eq_true h
         rw[g2 rfl,this]
       ·rw[if_neg (by omega)]
       ·by_cases hml:cap=l
        ·exact hml
        ·rw[if_neg hml]at hn
         cases a with
         |none=>exact absurd (g4 rfl) (by omega)
         |some a=>simp at hn
  ·simp only[Rel]at ha
   subst ha
   simp only
   cases hb:bnds 0 0 lo hi mx with
   |none=>trivial
   |some p=>
    obtain⟨l,hh,m⟩:=p
    obtain⟨e1,e2,e3,e4,q1,q2,q3⟩:=bnds_ok h1 h2 h3 hb
    have hsb:=run_sliceBounds (P:=P) true 0 0 q1 q2 q3 w
    have z1:l=0:=by omega
    have z2:hh=0:=by omega
    have z3:m=0:=by omega
    refine SV.pure hk (V:=.slice none 0 0) ?_ (by simp only[Rel])
    simp[Instr.sliceAt,run_underlying hu,Instr.slice,hsb,htf.size,z1,z2,z3]
  ·rename_i i o len c opn
   simp only[Rel]at ha
   obtain⟨bb,hb0,e,hlc⟩:=ha
   subst e
   cases opn with
   |false=>
    simp only[Bool.false_eq_true,if_false]at hlc ⊢
    cases hb:bnds len c lo hi mx with
    |none=>trivial
    |some p=>
     obtain⟨l,hh,m⟩:=p
     obtain⟨e1,e2,e3,e4,q1,q2,q3⟩:=bnds_ok h1 h2 h3 hb
     have hsb:=run_sliceBounds (P:=P) true len c q1 q2 q3 w
     simp only[fN_eq]
     cases hml:Nat.beq m l with
     |true=>
      have:=Nat.eq_of_beq_eq_true hml
      subst this
      refine SV.pure hk (V:=.slice (some ⟨bb,o,none⟩) (hh-m) (m-m)) ?_ ?_
      ·simp[Instr.sliceAt,run_underlying hu,Instr.slice,hsb,htf.size]
      ·simp only[Rel,Bool.false_eq_true,if_false];exact⟨bb,hb0,rfl,Nat.sub_le_sub_right e2 _⟩
     |false=>
      have hne:=beq_false hml
      refine SV.pure hk (V:=.slice (some ⟨bb,o+l * s,none⟩) (hh-l) (m-l)) ?_ ?_
      ·simp[Instr.sliceAt,run_underlying hu,Instr.slice,hsb,htf.size,hne,addr_add]
      ·simp only[Rel,Bool.false_eq_true,if_false];exact⟨bb,hb0,rfl,Nat.sub_le_sub_right e2 _⟩
   |true=>
    simp only[if_true]at hlc ⊢
    cases mx with
    |some v=>
     simp only
     cases hb:bnds len len lo hi (some v) with
     |none=>trivial
     |some p=>
      obtain⟨l,hh,m⟩:=p
      obtain⟨e1,e2,e3,e4,q1,q2,q3⟩:=bnds_ok h1 h2 h3 hb
      have q1':MxOk (σ.cap i-c) m MX:=by
       cases MX with
       |none=>simp only[RelO]at h3
       |some V=>exact⟨q1.1,by omega⟩
      have hsb:=run_sliceBounds (P:=P) true len (σ.cap i-c) q1' q2 q3 w
      simp only[fN_eq]
      cases hml:Nat.beq m l with
      |true=>
       have:=Nat.eq_of_beq_eq_true hml
       subst this
       refine SV.pure hk (V:=.slice (some ⟨bb,o,none⟩) (hh-m) (m-m)) ?_ ?_
       ·simp[Instr.sliceAt,run_underlying hu,Instr.slice,hsb,htf.size]
       ·simp only[Rel,Bool.false_eq_true,if_false];exact⟨bb,hb0,rfl,Nat.sub_le_sub_right e2 _⟩
      |false=>
       have hne:=beq_false hml
       refine SV.pure hk (V:=.slice (some ⟨bb,o+l * s,none⟩) (hh-l) (m-l)) ?_ ?_
       ·simp[Instr.sliceAt,run_underlying hu,Instr.slice,hsb,htf.size,hne,addr_add]
       ·simp only[Rel,Bool.false_eq_true,if_false];exact⟨bb,hb0,rfl,Nat.sub_le_sub_right e2 _⟩
    |none=>
     have hmx:MX=none:=by cases MX with |none=>rfl |some V=>simp only[RelO]at h3
     subst hmx
     simp only
     cases hb:bnds len len lo hi none with
     |none=>trivial
     |some p=>
      obtain⟨l,hh,m⟩:=p
      obtain⟨e1,e2,e3,e4,q1,q2,q3⟩:=bnds_ok h1 h2 h3 hb
      have q2':HiOk len hh (σ.cap i-c) none HI:=by
       cases HI with
       |none=>exact q2
       |some V=>exact⟨q2.1,by omega⟩
      have hsb:=run_sliceBounds (P:=P) true len (σ.cap i-c) (mx:=none) (m:=σ.cap i-c) (show MxOk _ _ none from rfl) q2' q3 w
      simp only[fN_eq]
      cases hl0:Nat.beq l 0 with
      |true=>
       have:=Nat.eq_of_beq_eq_true hl0
       subst this
       refine SV.pure hk (V:=.slice (some ⟨bb,o,none⟩) (hh-0) (σ.cap i-c-0)) ?_ ?_
       ·simp[Instr.sliceAt,run_underlying hu,Instr.slice,hsb,htf.size,addr_add]
       ·simp only[Rel,if_true];exact⟨bb,hb0,by simp,by show hh-0≤σ.cap i-(c+0);omega⟩
      |false=>
       simp only
       cases hll:Nat.ble (Nat.succ l) len with
       |false=>trivial
       |true=>
        have hlt:l<len:=Nat.le_of_ble_eq_true hll
        have hne:¬σ.cap i-c=l:=by omega
        refine SV.pure hk (V:=.slice (some ⟨bb,o+l * s,none⟩) (hh-l) (σ.cap i-c-l)) ?_ ?_
        ·simp[Instr.sliceAt,run_underlying hu,Instr.slice,hsb,htf.size,hne,addr_add]
        ·simp only[Rel,if_true];exact⟨bb,hb0,by rw[Nat.sub_sub];rfl,by show hh-l≤σ.cap i-(c+l);omega⟩
 ·
  rename_i n elem
  cases fs with
  |nil=>trivial
  |cons p fs=>
  obtain⟨o0,s,b0⟩:=p
  have htf:=he elem (.inr (.inl ⟨n,rfl⟩)) o0 s b0 rfl
  cases a <;> try trivial
  rename_i i o
  simp only[Rel]at ha
  obtain⟨bb,hb0,e⟩:=ha
  subst e
  simp only
  cases hb:bnds n n lo hi mx with
  |none=>trivial
  |some p=>
   obtain⟨l,hh,m⟩:=p
   obtain⟨e1,e2,e3,e4,q1,q2,q3⟩:=bnds_ok h1 h2 h3 hb
   have hsb:=run_sliceBounds (P:=P) false n n q1 q2 q3 w
   simp only[fN_eq]
   cases hml:Nat.beq m l with
   |true=>
    have:=Nat.eq_of_beq_eq_true hml
    subst this
    refine SV.pure hk (V:=.slice (some ⟨bb,o,none⟩) (hh-m) (m-m)) ?_ ?_
    ·simp[Instr.sliceAt,run_underlying hu,Instr.sureAddr,hsb,htf.size]
    ·simp only[Rel,Bool.false_eq_true,if_false];exact⟨bb,hb0,rfl,Nat.sub_le_sub_right e2 _⟩
   |false=>
    have hne:=beq_false hml
    refine SV.pure hk (V:=.slice (some ⟨bb,o+l * s,none⟩) (hh-l) (m-l)) ?_ ?_
    ·simp[Instr.sliceAt,run_underlying hu,Instr.sureAddr,hsb,htf.size,hne,addr_add]
    ·simp only[Rel,Bool.false_eq_true,if_false];exact⟨bb,hb0,rfl,Nat.sub_le_sub_right e2 _⟩
end
end Go.Ev
