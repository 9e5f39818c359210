/- Texts. -/
import Derived.Laws.Pointers
import Derived.TacticsInMore
import Derived.RegionIn
import Derived.LoopNIn
import Derived.Test.YtkdnmldmffkkoaaGreatDoorLays
import Derived.Test.YtkdnmldmffkkoaaGreatDoorP12
import Derived.Test.YtkdnmldmffkkoaaGreatDoorP16
import Derived.Test.YtkdnmldmffkkoaaGreatDoorP35
set_option linter.unusedSimpArgs false
set_option linter.unusedVariables false
set_option maxRecDepth 100000
namespace Go.Ev
open Go.Proofs
noncomputable section
def DI (l2 n2:Nat) (f:Nat):Nat→Bool:=
 Nat.rec (motive:=fun _=>Nat→Bool) (fun _=>false) (fun _ ih n=>match Nat.beq (Nat.mod n (Nat.pow 256 l2)) n2 with
  |true=>true
  |false=>ih (Nat.div n 256)) f
theorem YH (l2 n2 f n:Nat):DI l2 n2 (f+1) n=match Nat.beq (n % 256 ^ l2) n2 with
  |true=>true
  |false=>DI l2 n2 f (n / 256):=rfl
theorem Yt:∀(l2 l n n2:Nat),n2<256 ^ l2→(cC l2 n2).isPrefixOf (cC l n)=(decide (l2≤l) && Nat.beq (n % 256 ^ l2) n2)
 |0,l,n,n2,h=>by
  have:n2=0:=by simpa using h
  subst this;simp[cC,Nat.mod_one]
 |l2+1,0,n,n2,h=>by
  rw[qW];simp[cC]
 |l2+1,l+1,n,n2,h=>by
  have h2:n2 / 256<256 ^ l2:=by
   rw[Nat.pow_succ]at h;exact Nat.div_lt_of_lt_mul (by rw[Nat.mul_comm];exact h)
  have hm:n % 256 ^ (l2+1)=n % 256+256 * (n / 256 % 256 ^ l2):=by
   rw[Nat.pow_succ,Nat.mul_comm,Nat.mod_mul]
  have a1:n % 256<256:=Nat.mod_lt _ (by decide);have a2:n2 % 256<256:=Nat.mod_lt _ (by decide);rw[qW,qW,List.isPrefixOf_cons_cons,Yt l2 l (n / 256) (n2 / 256) h2,hm];have hb:(UInt8.ofNat (n2 % 256) == UInt8.ofNat (n % 256))=decide (n2 % 256=n % 256):=by
   by_cases e:n2 % 256=n % 256
   ·rw[e];simp
   ·rw[decide_eq_false e,beq_eq_false_iff_ne];intro q;have:=congrArg UInt8.toNat q;rw[u8 a2,u8 a1]at this;exact e this
  rw[hb];have hk:Nat.beq (n % 256+256 * (n / 256 % 256 ^ l2)) n2=(decide (n2 % 256=n % 256) && Nat.beq (n / 256 % 256 ^ l2) (n2 / 256)):=by
   have e2:=Nat.div_add_mod n2 256;generalize n / 256 % 256 ^ l2=z;rw[Bool.eq_iff_iff];simp only[Nat.beq_eq,al,decide_eq_true_eq];omega
  rw[hk];simp only[Nat.add_le_add_iff_right];cases decide (n2 % 256=n % 256) <;> cases decide (l2≤l) <;> rfl
theorem zNl (b:UInt8)(l sub:List UInt8):Lib.contains (b::l) sub=(sub.isPrefixOf (b::l) || Lib.contains l sub):=by
 unfold Lib.contains;have h1:=Lib.index_ge l sub;rw[Lib.index];cases hp:sub.isPrefixOf (b::l) with
 |true=>rw[if_pos rfl];rfl
 |false=>
  rw[if_neg (by simp),Bool.false_or]
  by_cases q:Lib.index l sub=-1
  ·rw[if_pos (by rw[q];rfl),q]
  ·rw[if_neg (by rw[beq_iff_eq];exact q)];have a:0≤Lib.index l sub:=by omega
   rw[decide_eq_true a,decide_eq_true (by omega)]
theorem YT {l2 n2:Nat}(h2:n2<256 ^ l2):∀(l n:Nat),Lib.contains (cC l n) (cC l2 n2)=DI l2 n2 (Nat.sub (Nat.succ l) l2) n
 |0,n=>by
  cases l2 with
  |zero=>
   have:n2=0:=by simpa using h2
   subst this;show Lib.contains [] []=DI 0 0 1 n;rw[show (1:Nat)=0+1 from rfl,YH];simp[Nat.mod_one];rfl
  |succ k=>
   rw[show Nat.sub (Nat.succ 0) (k+1)=0 from by show 0+1-(k+1)=0;omega];rw[qW];rfl
 |l+1,n=>by
  have ih:=YT h2 l (n / 256);have hp:=Yt l2 (l+1) n n2 h2;rw[qW]at hp ⊢;rw[zNl,hp,ih]
  rcases Nat.lt_or_ge (l+1) l2 with q |q
  ·rw[show Nat.sub (Nat.succ (l+1)) l2=0 from by show l+1+1-l2=0;omega,show Nat.sub (Nat.succ l) l2=0 from by show l+1-l2=0;omega,decide_eq_false (by omega)];rfl
  ·rw[show Nat.sub (Nat.succ (l+1)) l2=Nat.sub (Nat.succ l) l2+1 from by show l+1+1-l2=l+1-l2+1;omega,decide_eq_true q,YH,Bool.true_and];cases Nat.beq (n % 256 ^ l2) n2 <;> rfl
def Ro (f0:FuncId)(ca:Ca):Ca:=fun f args h nx=>match Nat.beq f f0 with
 |true=>match args with
  |[.str l n,.str l2 n2]=>match Nat.ble l 100000 with
   |true=>match DI l2 n2 (Nat.sub (Nat.succ l) l2) n with
    |true=>.ok (.bool true) h nx
    |false=>.ok (.bool false) h nx
   |false=>.fail
  |_=>.fail
 |false=>ca f args h nx
variable {c : Cx} {σ : Sg} {h g : Tr ABlk} {nx ny : Nat} {w : World}
theorem QU (l n:Nat):(bE l n).data.toList=cC l n:=rfl
theorem zTm (l n:Nat):(cC l n).length=l:=by simp[cC]
theorem zR6 (hc:CxOk Tryz.prog c){fn:Func}(cA:c.ft.get 266=some fn)(hT:c.G.tab 3=some [.opq 0]){ca:Ca}(df:jn Tryz.prog c ca):jn Tryz.prog c (Ro 266 ca):=by
 intro f args h nx v g ny he;unfold Ro at he;cases hf:Nat.beq f 266 with
 |false=>rw[hf]at he;exact df f args h nx v g ny he
 |true=>
  rw[hf]at he;have e1:=ad hf;subst e1;simp only at he;split at he
  ·rename_i l n l2 n2;cases hb:Nat.ble l 100000 with
   |false=>rw[hb]at he;cases he
   |true=>
   rw[hb]at he;simp only at he;intro σ w A ok hA;simp only[aC,av]at hA;obtain⟨V1,L1,rfl,⟨b1,rfl⟩,V2,L2,rfl,⟨b2,rfl⟩,rfl⟩:=hA;obtain⟨b,o,L,q1,q2,q3⟩:=ok.ip (ok.gl 3 _ hT);simp only[Value.pointer.injEq,Option.some.injEq,Addr.mk.injEq,and_true]at q1;obtain⟨rfl,rfl⟩:=q1;simp only[aC,av]at q2;obtain⟨V,L',rfl,⟨_,_,q4⟩,rfl⟩:=q2;obtain⟨m,rfl⟩:=q4 trivial;have hm:=q3 0 _ rfl;have bg:=Any.strings_Contains Tryz.lays144 (bE l n) (bE l2 n2) m w (by
    have:=ah hb;show (bE l n).data.size < _;rw[← Array.length_toList,QU,zTm];omega) hm
   refine GJ hc cA (bg.mono ?_)
   rintro e x ⟨rfl,rfl⟩
   rw[QU,QU,YT b2];cases hr:DI l2 n2 (Nat.sub (Nat.succ l) l2) n with
   |true=>
    rw[hr]at he;cases he;exact⟨σ,_,_,_,by simp only[av],.refl ok,rfl,rfl,rfl⟩
   |false=>
    rw[hr]at he;cases he;exact⟨σ,_,_,_,by simp only[av],.refl ok,rfl,rfl,rfl⟩
  ·cases he
theorem tq (w:World):(binOp BinOp.neq 20 .nilIface .nilIface).run Tryz.prog w=.ok (.bool false) w:=by kernel_rfl
theorem zTz:Dm Tryz.prog 107:=by
 intro p q r w;refine callsDIn_of_wpSIn (fn:=Tryz.f107) (by kernel_rfl) rfl trivial fun c₀ cs hu=>?_;apply wpSIn_seq;apply wpSIn_region;simp[wpOpsSIn,go_sem,recoverD,hu,Exit.thenS];apply wpSIn_seq;apply wpSIn_region;simp[wpOpsSIn,go_sem,tq,Exit.thenS];refine wpSIn_cond (t:=false) (by simp[Act.eval,Array.replicate]) ?_;simp only[Bool.false_eq_true,if_false];refine wpSIn_of_wpIn rfl (wpIn_skip ?_);cases c₀
 simp_all [bodyPostS,results]
theorem zPf:Dm Tryz.prog 109:=by
 intro p q r w;refine callsDIn_of_wpSIn (fn:=Tryz.f109) (by kernel_rfl) rfl trivial fun c₀ cs hu=>?_;apply wpSIn_seq;apply wpSIn_region;simp[wpOpsSIn,go_sem,recoverD,hu,Exit.thenS];apply wpSIn_seq;apply wpSIn_region;simp[wpOpsSIn,go_sem,tq,Exit.thenS];refine wpSIn_cond (t:=false) (by simp[Act.eval,Array.replicate]) ?_;simp only[Bool.false_eq_true,if_false];refine wpSIn_of_wpIn rfl (wpIn_skip ?_);cases c₀
 simp_all [bodyPostS,results]
end
end Go.Ev
