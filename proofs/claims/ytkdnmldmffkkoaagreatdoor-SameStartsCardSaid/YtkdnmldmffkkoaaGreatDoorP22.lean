/- Texts T47 T48 T37 T38 T49. -/
import Derived.Tactics
import Derived.Test.YtkdnmldmffkkoaaGreatDoorLays
import Derived.Test.YtkdnmldmffkkoaaGreatDoorP05
import Derived.Test.YtkdnmldmffkkoaaGreatDoorP18
import Derived.Test.YtkdnmldmffkkoaaGreatDoorP21
set_option linter.unusedSimpArgs false
set_option linter.unusedVariables false
set_option maxRecDepth 100000
namespace Go.Ev
open Go.Proofs Go.RowKit
noncomputable section
attribute [-go_sem] zaf zac zay
theorem zHp {P : Program} {f : FuncId} {fn : Func} {e : Array Value → Sem Value} (hf : P.funcs[f]? = some fn) (hn : (fn.name == "runtime.NumGoroutine") = false) (hb : fn.body = none) (h1 : Extern.findNext fn = none) (h2 : Extern.find fn = some e) : ∀ A w, (callFunc f A).run P w = ((e A).run P w).andThen fun v w' => .ok (.value v) w' := by
 intro A w
 have hn' : ¬ fn.name = "runtime.NumGoroutine" := fun e => by rw [e] at hn; simp at hn
 simp only[callFunc,Sem.run_bind,run_program,Result.andThen,hf,hn',hb,h1,h2,mark,Sem.run,Option.isNone_none,if_true,beq_iff_eq,if_false]
 cases (e A).run P w <;> rfl
theorem zPe (v:AV):Ret Tryz.prog cx 275 [v] v:=by
 intro h nx σ w A hk hA
 simp only[za1]at hA
 obtain⟨V,L,rfl,hV,rfl⟩:=hA
 unfold CR
 rw[zHp (e:=Extern.AbiNoEscape.same) (fn:=Tryz.f275) (by kernel_rfl) (by kernel_rfl) (by kernel_rfl) (by kernel_rfl) (by kernel_rfl)]
 exact⟨σ,v,h,nx,hV,.refl hk,rfl,rfl,rfl⟩
theorem zIo (b:UInt8):zh9 (.int .u8 (b.toNat:Int))=some b.toNat:=by
 have h:b.toNat<256:=b.toNat_lt
 have h2:Nat.ble b.toNat 255=true:=Nat.ble_eq_true_of_le (by omega)
 show (match Nat.ble b.toNat 255 with |true=>some b.toNat |false=>none)=_
 rw[h2]
theorem zyg:∀l:List UInt8,∃z,zfe (zam l)=some z
 |[]=>⟨0,rfl⟩
 |b::l=>by
  obtain⟨z,hz⟩:=zyg l
  refine⟨b.toNat+256 * z,?_⟩
  rw[show zam (b::l)=.int .u8 (b.toNat:Int)::zam l from rfl,ztu,zIo,hz]
  rfl
theorem zzd (σ:Sg):∀l:List UInt8,za1 σ (zam l) (l.map fun b=>Value.int .u8 (b.toNat:Int))
 |[]=>by simp only[zam,List.map_nil,za1]
 |b::l=>by
  rw[show zam (b::l)=.int .u8 (b.toNat:Int)::zam l from rfl]
  simp only[za1,List.map_cons]
  exact⟨_,_,rfl,by simp only[Rel],zzd σ l⟩
theorem zLg {l:List UInt8}{z:Nat}(hz:zfe (zam l)=some z):zai l.length z=⟨l.toArray⟩:=by
 obtain⟨_,ns,h1,h2⟩:=zq3 (zzd ⟨fun _=>none,fun _=>0,fun _=>.nilFunc,fun _=>none⟩ l) hz
 rw[zh3]at h2
 unfold zai
 rw[← h2]
 have h3:ns=l.map fun b=>(b.toNat:Int):=by
  have:=congrArg (List.map fun v=>match v with |Value.int _ n=>n |_=>0) h1
  simpa[Function.comp_def]using this.symm
 rw[h3,List.map_map]
 congr 2
 have:(fun z=>UInt8.ofNat (Int.toNat z)) ∘ (fun b:UInt8=>(b.toNat:Int))=id:=by
  funext b
  simp
 rw[this,List.map_id]
def zpk (B:Option ABlk) (e i n:Nat)(h:Tr ABlk) (nx:Nat):R:=match B with
 |some (.cells e' m c _ _)=>match Nat.beq e' e && Nat.beq 0 0 && Nat.ble n m && Nat.ble n 4611686018427387904 with
  |false=>.fail
  |true=>match zci c n 0 with
   |none=>.fail
   |some l=>match zfe l with
    |none=>.fail
    |some z=>.val (.str n z) (h.put i none) nx
 |_=>.fail
@[go_sem] theorem ycf (e a b:Nat)(c:Option AV) (x:Nat)(y:Bool)(fs:List (Nat×Nat×Bool)) (i n:Nat)(h:Tr ABlk) (nx:Nat)(hn:n≠0):
  zo5 (.mk (.pointer e) a b c ((x,1,y)::fs)) (.ptr i 0) (.int .i64 (n:Int)) h nx=zpk (h.get i) e i n h nx:=by
 have h0:Nat.beq n 0=false:=by cases n;exact absurd rfl hn;rfl
 show (match Nat.beq n 0 with
    |true=>R.val (.str 0 0) h nx
    |false=>match h.get i with
      |some (.cells e' m c _ _)=>match Nat.beq e' e && Nat.beq 0 0 && Nat.ble n m && Nat.ble n 4611686018427387904 with
       |false=>.fail
       |true=>match zci c n 0 with
        |none=>.fail
        |some l=>match zfe l with
         |none=>.fail
         |some z=>fN z fun z=>h.putK none i fun h'=>.val (.str n z) h' nx
      |_=>.fail)=_
 rw[h0]
 unfold zpk
 cases h.get i with
 |none=>rfl
 |some B=>
  cases B <;> try rfl
  simp only[fN_eq,Tr.putK_eq]
@[go_sem] theorem zXh (t e i n z:Nat)(L:List AV)(opn:Bool) (esz:Nat)(h:Tr ABlk) (nx:Nat)(ht:t=e)(hn:n=L.length)(hz:zfe L=some z)(hb:n≤4611686018427387904):zpk (some (bx t L opn esz)) e i n h nx=.val (.str n z) (h.put i none) nx:=by
 subst ht
 subst hn
 have e1:=zpj L L.length 0 (by omega)
 rw[List.drop_zero,List.take_length]at e1
 simp[zpk,bx,zcl,hb,e1,hz]
theorem zLl:cx.ft.get 253=some Tryz.f253:=za9 (by decide) (by kernel_rfl)
theorem zIr:cx.ft.get 196=some Tryz.f196:=za9 (by decide) (by kernel_rfl)
theorem zUj:cx.ft.get 197=some Tryz.f197:=za9 (by decide) (by kernel_rfl)
theorem zRt:cx.ft.get 142=some Tryz.f142:=za9 (by decide) (by kernel_rfl)
def zg7 (h:Tr ABlk) (nx a q:Nat)(l:List UInt8):Prop:=a<nx∧((l=[]∧h.get a=some (bx 192 [.ptr0,.sl0] false 0))∨(l≠[]∧q<nx∧q≠a∧h.get a=some (bx 192 [.ptr a 0,.sl q 0 l.length 0 true] false 0)∧h.get q=some (bx 5 (zam l) true 1)))
theorem zG1:cx.lies 192 1 0 192=true:=by kernel_rfl
def toB (B:Option ABlk) (i o:Nat)(h:Tr ABlk) (nx:Nat):R:=match B with
 |some (.cells _ n _ _ _)=>match Nat.ble (Nat.succ o) n with
  |true=>.val (.ptr i o) h nx
  |false=>.fail
 |_=>.fail
@[go_sem] theorem zWz (e a b:Nat)(c:Option AV) (x s:Nat)(y:Bool)(fs:List (Nat×Nat×Bool)) (i o:Nat)(h:Tr ABlk) (nx:Nat)(hs:s≠0):zm7 (.mk (.pointer e) a b c ((x,s,y)::fs)) (.ptr i o) h nx=toB (h.get i) i o h nx:=by
 have h0:Nat.beq s 0=false:=by cases s;exact absurd rfl hs;rfl
 simp only[zm7,h0]
 rfl
@[go_sem] theorem zVo (i o t esz:Nat)(l:List AV)(opn:Bool)(h:Tr ABlk) (nx:Nat)(ho:o<l.length):toB (some (bx t l opn esz)) i o h nx=.val (.ptr i o) h nx:=by
 simp[toB,bx,zcl,Nat.succ_le_of_lt ho]
def zuh (c:Cx)(B:Option ABlk) (u i o:Nat)(h:Tr ABlk) (nx:Nat):R:=match B with
 |some (.cells e n _ false _)=>match c.tt.get e with
  |some (.mk _ se _ _ _)=>match c.lies e (Nat.div n se) o u with
   |true=>.val (.ptr i o) h nx
   |false=>.fail
  |none=>.fail
 |_=>.fail
@[go_sem] theorem zY1 (c:Cx) (d u a b:Nat)(z:Option AV)(x:Nat×Nat×Bool)(fs:List (Nat×Nat×Bool)) (i o:Nat)(h:Tr ABlk) (nx:Nat):zo1 c d (.mk (.pointer u) a b z (x::fs)) (.ptr i o) h nx=zuh c (h.get i) u i o h nx:=rfl
@[go_sem] theorem ybe (i:Nat)(x y:AV) (esz:Nat)(h:Tr ABlk) (nx:Nat):zuh cx (some (bx 192 [x,y] false esz)) 192 i 0 h nx=.val (.ptr i 0) h nx:=by
 have h1:=zNc
 simp only[zuh,bx,h1]
 have h2:Nat.div [x,y].length 2=1:=by show Nat.div 2 2=1;decide
 rw[h2,zG1]
@[go_sem] theorem ybu (i o l:Nat)(h:Tr ABlk) (nx:Nat)(hl:l≠0):bSD [.sl i o l 0 true] h nx=.val (.ptr i o) h nx:=by
 have:Nat.ble 1 l=true:=Nat.ble_eq_true_of_le (by omega)
 show (match Nat.ble 1 l with |true=>R.val (.ptr i o) h nx |false=>.fail)=_
 rw[this]
@[go_sem] theorem ybd (c:Cx)(t u:TypeId)(a b:AV)(h:Tr ABlk) (nx:Nat):bUS c (List.toArray [t,u]) [a,b] h nx=bR (c.tt.get t) fun ti=>zo5 ti a b h nx:=rfl
theorem zw9 (a:Nat)(x y:AV)(hx:x=.ptr0∨x=.ptr a 0)(h:Tr ABlk) (nx:Nat)(ha:h.get a=some (bx 192 [x,y] false 0))(R:AV→Tr ABlk→Nat→Prop)(hR:∀g,g.get a=some (bx 192 [.ptr a 0,y] false 0)→(∀k,k≠a→g.get k=h.get k)→R (.tup []) g nx):za7 Tryz.prog cx 253 [.ptr a 0] h nx R:=by
 refine zaa (sz:=20) (rs:=[]) za4 zLl rfl rfl rfl (by simp) ?_
 rcases hx with rfl |rfl
 ·simp-implicitDefEqProofs[go_sem,ha]
  refine Ret.use (zPe _) ?_
  simp-implicitDefEqProofs[go_sem,za0,ha,za3]
  exact hR _ (by simp[go_sem]) (fun k hk=>by simp[go_sem,hk])
 ·simp-implicitDefEqProofs[go_sem,ha]
  exact hR _ ha (fun k hk=>rfl)
set_option maxHeartbeats 1000000 in
theorem zS4 (h:Tr ABlk) (nx a q:Nat)(l:List UInt8)(s:ByteArray)(hs:s.size≠0)(hl:l.length+s.size≤16777216)(hB:zg7 h nx a q l)(R:AV→Tr ABlk→Nat→Prop)
  (hR:∀v g ny q',nx≤ny→(∀k,k<nx→k≠a→k≠q→g.get k=h.get k)→nx≤q'→zg7 g ny a q' (l++s.data.toList)→R v g ny):za7 Tryz.prog cx 196 [.ptr a 0,.bs s] h nx R:=by
 refine zaa (sz:=19) (rs:=[.tmp 4,.tmp 5]) za4 zIr rfl rfl rfl (by simp) ?_
 have fo:=zhl s.data.toList
 have hsl:s.data.toList.length=s.size:=by simp
 have hsn:s.data.toList≠[]:=fun e=>hs (by rw[← hsl,e];rfl)
 obtain⟨ha0,⟨rfl,ga⟩ |⟨h1,hq0,hqa,ga,gq⟩⟩:=hB
 ·simp only[List.length_nil,Nat.zero_add]at hl
  simp-implicitDefEqProofs[go_sem]
  refine zw9 a _ _ (.inl rfl) h nx ga _ fun g g1 g2=>?_
  have n1:¬a=nx:=by omega
  simp-implicitDefEqProofs[go_sem,za0,g1,fo,hs,hl,n1,za3]
  refine hR _ _ _ nx (by omega) (fun k k1 k2 k3=>?_) (by omega) ⟨by omega,.inr ⟨by simpa using hsn,by omega,by omega,?_,?_⟩⟩
  ·simp[go_sem,k2,show ¬k=nx by omega]
   exact g2 k k2
  ·simp[go_sem]
  ·simp[go_sem,show ¬nx=a by omega]
 ·simp-implicitDefEqProofs[go_sem]
  refine zw9 a _ _ (.inr rfl) h nx ga _ fun g g1 g2=>?_
  have n1:¬a=nx:=by omega
  have n2:¬a=q:=fun e=>hqa e.symm
  have gq':g.get q=some (bx 5 (zam l) true 1):=by rw[g2 q hqa];exact gq
  have fo2:=zhl l
  simp-implicitDefEqProofs[go_sem,za0,g1,gq',fo,fo2,hs,hl,n1,n2,za3]
  refine hR _ _ _ nx (by omega) (fun k k1 k2 k3=>?_) (by omega) ⟨by omega,.inr ⟨by simp[h1],by omega,by omega,?_,?_⟩⟩
  ·simp[go_sem,k2,k3,show ¬k=nx by omega]
   exact g2 k k2
  ·simp[go_sem]
  ·simp[go_sem,show ¬nx=a by omega,zgk]
set_option maxHeartbeats 1000000 in
theorem zJo (h:Tr ABlk) (nx a q:Nat)(l:List UInt8)(x:UInt8)(hl:l.length+1≤16777216)(hne:l≠[])(hB:zg7 h nx a q l)(R:AV→Tr ABlk→Nat→Prop)
  (hR:∀v g ny q',nx≤ny→(∀k,k<nx→k≠a→k≠q→g.get k=h.get k)→nx≤q'→zg7 g ny a q' (l++[x])→R v g ny):za7 Tryz.prog cx 197 [.ptr a 0,.int .u8 (x.toNat:Int)] h nx R:=by
 refine zaa (sz:=17) (rs:=[.tmp 4]) za4 zUj rfl rfl rfl (by simp) ?_
 obtain⟨ha0,⟨e,ga⟩ |⟨h1,hq0,hqa,ga,gq⟩⟩:=hB
 ·exact absurd e hne
 ·simp-implicitDefEqProofs[go_sem]
  refine zw9 a _ _ (.inr rfl) h nx ga _ fun g g1 g2=>?_
  have n1:¬a=nx:=by omega
  have n2:¬a=q:=fun e=>hqa e.symm
  have n3:¬q=nx:=by omega
  have n4:¬a=nx+1:=by omega
  have gq':g.get q=some (bx 5 (zam l) true 1):=by rw[g2 q hqa];exact gq
  have fo2:=zhl l
  simp-implicitDefEqProofs[go_sem,za0,g1,gq',fo2,hl,n1,n2,n3,n4,za3]
  refine hR _ _ _ (nx+1) (by omega) (fun k k1 k2 k3=>?_) (by omega) ⟨by omega,.inr ⟨by simp,by omega,by omega,?_,?_⟩⟩
  ·simp[go_sem,k2,k3,show ¬k=nx by omega,show ¬k=nx+1 by omega]
   exact g2 k k2
  ·simp[go_sem]
  ·simp[go_sem,show ¬nx+1=a by omega,zgk]
   rfl
@[go_sem] theorem yav (callee:Callee)(x:Operand)(l:List Operand)(ats:Array TypeId):fpO (.call ⟨callee,List.toArray (x::l),ats⟩)=some x:=rfl
@[go_sem] theorem zXr (i o l c:Nat)(b:Bool)(h h':Tr ABlk):zbu (some (.sl i o l c b)) h h'=(h'.get i=h.get i):=rfl
set_option maxHeartbeats 1000000 in
theorem zSx (h:Tr ABlk) (nx a q:Nat)(l:List UInt8)(hne:l≠[])(hl:l.length≤16777216)(hB:zg7 h nx a q l)(R:AV→Tr ABlk→Nat→Prop)(hR:R (.bs ⟨l.toArray⟩) (h.put q none) nx):za7 Tryz.prog cx 142 [.ptr a 0] h nx R:=by
 obtain⟨ha0,⟨e,ga⟩ |⟨h1,hq0,hqa,ga,gq⟩⟩:=hB
 ·exact absurd e hne
 obtain⟨z,hz⟩:=zyg l
 have hsb:=zLg hz
 refine za7.wkR (R:=fun v g ny=>v=.str l.length z∧g=h.put q none∧ny=nx) ?_ ?_
 ·refine zaa (sz:=14) (rs:=[.tmp 2]) za4 zRt rfl rfl rfl (by simp) ?_
  have hl0:l.length≠0:=fun e=>hne (List.eq_nil_of_length_eq_zero e)
  have hl1:l.length≤4611686018427387904:=by omega
  simp-implicitDefEqProofs[go_sem]
  refine zbq mixed za4 zbe [4,10] [] [(8,4),(9,4)] (by kernel_rfl) ?_
  simp-implicitDefEqProofs[go_sem,ga,gq,hz,hl0,hl1]
 ·rintro v g ny ⟨rfl,rfl,rfl⟩
  refine⟨.bs (zai l.length z),.str _ _,?_⟩
  rw[hsb]
  exact hR
theorem zT0:cx.ft.get 140=some Tryz.f140:=za9 (by decide) (by kernel_rfl)
mutual
def ze3:Fm→List UInt8
 |.mk o n c m kids=>Lib.itoa o++(n.data.toList++(44::(Lib.itoa c++(44::(Lib.itoa m++(40::(zes kids++[41])))))))
def zes:List Fm→List UInt8
 |[]=>[]
 |f::l=>ze3 f++zes l
end
mutual
def FmI:Fm→Prop
 |.mk o _ c m kids=>I64 o∧I64 c∧I64 m∧zpg kids
def zpg:List Fm→Prop
 |[]=>True
 |f::l=>FmI f∧zpg l
end
theorem zBe:∀{l:List Fm},zpg l→∀f∈l,FmI f
 |[],_,f,h=>by cases h
 |x::l,hl,f,h=>by
  rcases List.mem_cons.1 h with rfl |h
  ·exact hl.1
  ·exact zBe hl.2 f h
theorem zRb (f:Fm):ze3 f≠[]:=by
 cases f
 simp[ze3]
set_option maxHeartbeats 2000000 in
theorem zM8 (n a:Nat):∀(f:Fm)(l:List UInt8)(h:Tr ABlk) (nx q:Nat)(R:AV→Tr ABlk→Nat→Prop),f.size≤n→n≤1000000→FmI f→zg7 h nx a q l→l.length+(ze3 f).length≤16000000→
  (∀v g ny q',nx≤ny→(∀k,k<nx→k≠a→k≠q→g.get k=h.get k)→(q'=q∨nx≤q')→zg7 g ny a q' (l++ze3 f)→R v g ny)→za7 Tryz.prog cx 140 [.ptr a 0,.agg f.cs] h nx R:=by
 induction n with
 |zero=>intro f l h nx q R hf;cases f;simp[Fm.size]at hf
 |succ n ih=>
 rintro⟨o,nn,cm,m,kids⟩ l h nx q R hf hn hI hB hl hR
 simp only[Fm.size]at hf
 obtain⟨hIo,hIc,hIm,hIk⟩:=hI
 have hsl:=zjw kids
 refine zaa (sz:=38) (rs:=[]) za4 zT0 rfl rfl rfl (by simp) ?_
 simp-implicitDefEqProofs[go_sem,Fm.cs]
 refine znm mixed za4 zbe 18 [] [3,10,15] [] [] 0 (by kernel_rfl) (by kernel_rfl) ?_
 simp-implicitDefEqProofs[go_sem]
 have io:=zri o hIo.1 hIo.2
 have ic:=zri cm hIc.1 hIc.2
 have im:=zri m hIm.1 hIm.2
 have lo:=zid o hIo
 have lc:=zid cm hIc
 have lm:=zid m hIm
 have hsp:(ze3 (.mk o nn cm m kids)).length=(Lib.itoa o).length+(nn.size+(1+((Lib.itoa cm).length+(1+((Lib.itoa m).length+(1+((zes kids).length+1))))))):=by
  simp[ze3];omega
 have eo:(⟨(Lib.itoa o).toArray⟩:ByteArray).size=(Lib.itoa o).length:=by simp[ByteArray.size]
 have ec:(⟨(Lib.itoa cm).toArray⟩:ByteArray).size=(Lib.itoa cm).length:=by simp[ByteArray.size]
 have em:(⟨(Lib.itoa m).toArray⟩:ByteArray).size=(Lib.itoa m).length:=by simp[ByteArray.size]
 have do_:(⟨(Lib.itoa o).toArray⟩:ByteArray).data.toList=Lib.itoa o:=by simp
 have dc:(⟨(Lib.itoa cm).toArray⟩:ByteArray).data.toList=Lib.itoa cm:=by simp
 have dm:(⟨(Lib.itoa m).toArray⟩:ByteArray).data.toList=Lib.itoa m:=by simp
 generalize (⟨(Lib.itoa o).toArray⟩:ByteArray)=Ao at io eo do_
 generalize (⟨(Lib.itoa cm).toArray⟩:ByteArray)=Ac at ic ec dc
 generalize (⟨(Lib.itoa m).toArray⟩:ByteArray)=Am at im em dm
 refine zbm io ?_
 have z1:Ao.size+nn.size≤9223372036854775807:=by omega
 have s1:(⟨#[44]⟩:ByteArray).size=1:=rfl
 have s2:(⟨#[40]⟩:ByteArray).size=1:=rfl
 generalize hk1:(⟨#[44]⟩:ByteArray)=K1 at s1
 generalize hk2:(⟨#[40]⟩:ByteArray)=K2 at s2
 have z2:Ao.size+nn.size+K1.size≤9223372036854775807:=by omega
 have z3:Ao.size+nn.size+K1.size+Ac.size≤9223372036854775807:=by omega
 have z4:Ao.size+nn.size+K1.size+Ac.size+K1.size≤9223372036854775807:=by omega
 have z5:Ao.size+nn.size+K1.size+Ac.size+K1.size+Am.size≤9223372036854775807:=by omega
 have z6:Ao.size+nn.size+K1.size+Ac.size+K1.size+Am.size+K2.size≤9223372036854775807:=by omega
 simp-implicitDefEqProofs[go_sem,zas,z1,z2,hk1]
 refine zbm ic ?_
 simp-implicitDefEqProofs[go_sem,zas,z3,z4,hk1]
 refine zbm im ?_
 simp-implicitDefEqProofs[go_sem,zas,z5,z6,hk1,hk2]
 have d1:K1.data.toList=[44]:=by rw[← hk1]
 have d2:K2.data.toList=[40]:=by rw[← hk2]
 have hSd:(Ao++nn++K1++Ac++K1++Am++K2).data.toList=Lib.itoa o++(nn.data.toList++(44::(Lib.itoa cm++(44::(Lib.itoa m++[40]))))):=by
  simp[ByteArray.data_append,do_,dc,dm,d1,d2]
 have hSs:(Ao++nn++K1++Ac++K1++Am++K2).size=Ao.size+nn.size+K1.size+Ac.size+K1.size+Am.size+K2.size:=by
  simp[ByteArray.size_append]
 generalize hS:Ao++nn++K1++Ac++K1++Am++K2=S at hSd hSs
 have hE:∀k,k<nx→(h.put nx (some (bx 24 [.int .i64 o,.bs nn,.int .i64 cm,.int .i64 m,.fz 5 false (zat kids)] false 0))).get k=h.get k:=fun k hk=>by simp[go_sem,show ¬k=nx by omega]
 have hB2:zg7 (h.put nx (some (bx 24 [.int .i64 o,.bs nn,.int .i64 cm,.int .i64 m,.fz 5 false (zat kids)] false 0))) (nx+1) a q l:=by
  obtain⟨b1,b2⟩:=hB
  refine⟨by omega,?_⟩
  rcases b2 with⟨b2,b3⟩ |⟨b2,b3,b4,b5,b6⟩
  ·exact .inl ⟨b2,by rw[hE a b1];exact b3⟩
  ·exact .inr ⟨b2,by omega,b4,by rw[hE a b1];exact b5,by rw[hE q b3];exact b6⟩
 have ha0:=hB.1
 obtain⟨q2,hq2,hq2n,hB3⟩:∃q2,(q2=q∨q2=a)∧q2<nx∧zg7 (h.put nx (some (bx 24 [.int .i64 o,.bs nn,.int .i64 cm,.int .i64 m,.fz 5 false (zat kids)] false 0))) (nx+1) a q2 l:=by
  obtain⟨b1,b2⟩:=hB2
  rcases b2 with⟨b2,b3⟩ |b2
  ·exact⟨a,.inr rfl,ha0,b1,.inl ⟨b2,b3⟩⟩
  ·refine⟨q,.inl rfl,?_,b1,.inr b2⟩
   rcases hB.2 with⟨e,_⟩ |⟨_,e,_⟩
   ·exact absurd e b2.1
   ·exact e
 refine zS4 _ _ a q2 l S (by omega) (by omega) hB3 _ fun v g ny q' c1 c2 c3 c4=>?_
 have gx:g.get nx=some (bx 24 [.int .i64 o,.bs nn,.int .i64 cm,.int .i64 m,.fz 5 false (zat kids)] false 0):=by
  rw[c2 nx (by omega) (by omega) (by omega)]
  simp[go_sem]
 have hK:∀k,k<nx→k≠a→k≠q→g.get k=h.get k:=by
  intro k k1 k2 k3
  rw[c2 k (by omega) k2 (by omega),hE k k1]
 obtain⟨l1,hl1⟩:∃l1,l1=l++S.data.toList:=⟨_,rfl⟩
 rw[← hl1]at c4
 have hl1n:l1≠[]:=by
  intro e
  have:=congrArg List.length hl1
  rw[e]at this
  simp at this
  omega
 have hfin:l++ze3 (.mk o nn cm m kids)=l1++(zes kids++[41]):=by
  rw[hl1,hSd]
  simp[ze3]
 have hlen:l1.length+((zes kids).length+1)≤16000000:=by
  have:=congrArg List.length hfin
  simp only[List.length_append,List.length_cons,List.length_nil]at this
  omega
 rw[hfin]at hR
 clear hSd hfin hl1 hsp hl
 simp-implicitDefEqProofs[go_sem,za0,gx]
 refine zap (fun mm st=>∃tm h' nx' k l2 q3,st=.mk tm h' nx' []∧mm=kids.length-k∧k≤kids.length∧tm.get 0=some (.ptr a 0)∧tm.get 26=some (.fz 5 false (zat kids))∧tm.get 27=some (.int .i64 (kids.length:Int))∧tm.get 28=some (.int .i64 (k:Int))∧(∀k,k<nx→k≠a→k≠q→h'.get k=h.get k)∧nx<q3∧nx≤nx'∧l2≠[]∧zg7 h' nx' a q3 l2∧RowKit.Hid (l2.length+((zes (kids.drop k)).length+1)≤16000000∧l1++zes kids=l2++zes (kids.drop k))) ⟨kids.length,_,_,_,0,l1,q',rfl,by simp,by simp,?_⟩ ?_
 ·simp-implicitDefEqProofs[go_sem]
  exact⟨fun k k1 k2 k3=>hK k k1 k2 k3,by omega,by omega,hl1n,c4,Lib.hid (by omega)⟩
 ·rintro mm st ⟨tm,h',nx',k,l2,q3,rfl,rfl,hk,t0,t26,t27,t28,hfr,hq3,hnn,hl2n,hB4,hv⟩ J hJ
  refine zag za4 _ ?_
  by_cases hlt:k<kids.length
  ·obtain⟨s1',_,s3'⟩:=zfn hlt
   obtain⟨hv1,hv2⟩:=hv.out
   have hd:kids.drop k=kids[k]::kids.drop (k+1):=List.drop_eq_getElem_cons hlt
   rw[hd,zes]at hv1 hv2
   have hIk2:=zBe hIk _ (List.getElem_mem hlt)
   rw[List.length_append]at hv1
   have hv3:(l2++ze3 kids[k]).length+((zes (kids.drop (k+1))).length+1)≤16000000:=by rw[List.length_append];omega
   have hv4:l1++zes kids=(l2++ze3 kids[k])++zes (kids.drop (k+1)):=by rw[hv2,List.append_assoc]
   have HD:=Lib.hid (And.intro hv3 hv4)
   have hck:l2.length+(ze3 kids[k]).length≤16000000:=by omega
   clear hv1 hv2 hv3 hv4 hd
   simp-implicitDefEqProofs[go_sem,t0,t26,t27,t28,hlt]
   have hEx:∀x y,∀k,k<nx'→((h'.put nx' x).put nx' y).get k=h'.get k:=fun x y k hk=>by simp[go_sem,show ¬k=nx' by omega]
   have hB5:∀x y,zg7 ((h'.put nx' x).put nx' y) (nx'+1) a q3 l2:=by
    intro x y
    obtain⟨b1,⟨b2,_⟩ |⟨b2,b3,b4,b5,b6⟩⟩:=hB4
    ·exact absurd b2 hl2n
    ·exact⟨by omega,.inr ⟨b2,by omega,b4,by rw[hEx x y a b1];exact b5,by rw[hEx x y q3 b3];exact b6⟩⟩
   refine ih kids[k] l2 _ _ q3 _ (by omega) (by omega) hIk2 (hB5 _ _) hck fun v g3 ny3 q4 e1 e2 e3 e4=>?_
   simp-implicitDefEqProofs[go_sem,za0,t0,t26,t27,t28]
   refine hJ (kids.length-(k+1)) _ (by omega) ⟨_,_,_,k+1,l2++ze3 kids[k],q4,rfl,rfl,by omega,?_⟩
   simp-implicitDefEqProofs (disch:=omega) [go_sem,t0,t26,t27,t28,zab]
   refine⟨fun k1 k2 k3 k4=>?_,by omega,by omega,?_,e4,?_⟩
   ·rw[e2 k1 (by omega) k3 (by omega),hEx _ _ k1 (by omega)]
    exact hfr k1 k2 k3 k4
   ·simp[hl2n]
   ·exact Lib.hid (by have:=HD.out;simpa using this)
  ·obtain⟨hv1,hv2⟩:=hv.out
   rw[List.drop_of_length_le (by omega),zes]at hv1 hv2
   simp at hv1 hv2
   have h41:((41:UInt8).toNat:Int)=41:=rfl
   simp-implicitDefEqProofs[go_sem,t0,t26,t27,t28,hlt]
   refine zJo h' nx' a q3 l2 41 (by omega) hl2n hB4 _ fun v g3 ny3 q4 e1 e2 e3 e4=>?_
   simp-implicitDefEqProofs[go_sem,za0]
   refine hR _ g3 ny3 q4 (by omega) (fun k1 k2 k3 k4=>?_) (.inr (by omega)) ?_
   ·rw[e2 k1 (by omega) k3 (by omega)]
    exact hfr k1 k2 k3 k4
   ·rw[← List.append_assoc,hv2]
    exact e4
end
end Go.Ev
namespace Go.Ev
open Go.Proofs
noncomputable section
attribute [-go_sem] zaf zac
theorem zSk:cx.ft.get 202=some Tryz.f202:=za9 (by decide) (by kernel_rfl)
def zcb (f:Fc) (x:Int):Bool:=decide (x<f.lo) || decide (f.hi<x)
theorem zTk:cx.ft.get 199=some Tryz.f199:=za9 (by decide) (by kernel_rfl)
mutual
def zcf (nm:ByteArray):List Int→Fm→List Int
 |L,.mk o n _ m kids=>zcs nm (if o=3∧n=nm then L++[m,IntKind.i64.wrap (m+1)] else L) kids
def zcs (nm:ByteArray):List Int→List Fm→List Int
 |L,[]=>L
 |L,f::l=>zcs nm (zcf nm L f) l
end
mutual
theorem zlb (nm:ByteArray):∀(f:Fm)(L:List Int),(zcf nm L f).length≤L.length+2 * f.size
 |.mk o n c m kids,L=>by
  rw[zcf]
  have:=zzz nm kids (if o=3∧n=nm then L++[m,IntKind.i64.wrap (m+1)] else L)
  have h2:(if o=3∧n=nm then L++[m,IntKind.i64.wrap (m+1)] else L).length≤L.length+2:=by split <;> simp
  simp only[Fm.size]
  omega
theorem zzz (nm:ByteArray):∀(l:List Fm)(L:List Int),(zcs nm L l).length≤L.length+2 * zae l
 |[],L=>by simp[zcs,zae]
 |f::l,L=>by
  rw[zcs]
  have h1:=zlb nm f L
  have h2:=zzz nm l (zcf nm L f)
  simp only[zae]
  omega
end
def ze5 (p q nx:Nat)(h g:Tr ABlk):Prop:=∀k,k<nx→k≠p→k≠q→g.get k=h.get k
theorem zu0 {p q nx:Nat}{h g:Tr ABlk}{j:Nat}{B:Option ABlk}(hj:nx≤j∨j=p∨j=q):ze5 p q nx h (g.put j B)↔ze5 p q nx h g:=by
 constructor
 ·intro e k hk h1 h2
  have:=e k hk h1 h2
  rw[Tr.get_put,if_neg (by omega)]at this
  exact this
 ·intro e k hk h1 h2
  rw[Tr.get_put,if_neg (by omega)];exact e k hk h1 h2
theorem ze5.trans {p q q' nx ny:Nat}{h g f:Tr ABlk}(a:ze5 p q nx h g)(hl:nx≤ny)(hq:q'=q∨nx≤q')(b:ze5 p q' ny g f):ze5 p q nx h f:=fun k hk h1 h2=>by
 rw[b k (by omega) h1 (by omega),a k hk h1 h2]
structure StW (x:Fc) (a p s q:Nat)(L:List Int)(h:Tr ABlk) (nx:Nat):Prop where
 la:a<nx
 lp:p<nx
 ls:s<nx
 lq:q<nx
 n1:a≠p
 n2:a≠q
 n3:s≠p
 n4:s≠q
 n5:p≠q
 ga:h.get a=some (bx 65 x.cs false 0)
 gpq:∃op:Bool,h.get p=some (bx 40 [.sl q 0 L.length (if op then 0 else L.length) op] false 0)∧h.get q=some (bx 3 (za5 L) op (if op then 1 else 0))
 gs:h.get s=some (bx 228 [.func 199 [] [.ptr a 0,.ptr p 0,.ptr s 0]] false 0)
theorem StW.mono {x:Fc}{a p s q:Nat}{L:List Int}{h g:Tr ABlk}{nx ny:Nat}(S:StW x a p s q L h nx)(e:Ext nx h g)(hn:nx≤ny):StW x a p s q L g ny:=by
 obtain⟨la,lp,ls,lq,n1,n2,n3,n4,n5,ga,⟨op,gp,gq⟩,gs⟩:=S
 refine⟨by omega,by omega,by omega,by omega,n1,n2,n3,n4,n5,?_,⟨op,?_,?_⟩,?_⟩
 all_goals rw[e _ (by omega)];assumption
theorem ze5.ext {p q nx ny:Nat}{h g f:Tr ABlk}(a:ze5 p q nx h g)(hl:nx≤ny)(b:Ext ny g f):ze5 p q nx h f:=fun k hk h1 h2=>by rw[b k (by omega),a k hk h1 h2]
set_option maxHeartbeats 2000000 in
theorem zFx (x:Fc) (a p s n:Nat):∀(f:Fm)(L:List Int)(h:Tr ABlk) (nx q:Nat)(R:AV→Tr ABlk→Nat→Prop),f.size≤n→n≤1000000→L.length+2 * f.size≤10000000→StW x a p s q L h nx→(∀g ny q',ze5 p q nx h g→(q'=q∨nx≤q')→nx≤ny→StW x a p s q' (zcf x.name L f) g ny→R (.tup []) g ny)→za7 Tryz.prog cx 199 [.agg f.cs,.ptr a 0,.ptr p 0,.ptr s 0] h nx R:=by
 induction n with
 |zero=>intro f L h nx q R hf;cases f;simp[Fm.size]at hf
 |succ n ih=>
 rintro⟨o,nn,cm,m,kids⟩ L h nx q R hf hn hL S hR
 simp only[Fm.size]at hf hL
 simp only[zcf]at hR
 refine zaa (sz:=36) (rs:=[]) za4 zTk rfl rfl rfl (by simp) ?_
 have hsl:=zjw kids
 obtain⟨la,lp,ls,lq,n1,n2,n3,n4,n5,ga,⟨op,gp,gq⟩,gs⟩:=S
 obtain⟨xn,xk,xlo,xhi⟩:=x
 simp only[Fc.cs]at ga
 have d1:¬a=nx:=by omega
 have d2:¬p=nx:=by omega
 have d3:¬s=nx:=by omega
 have d4:¬q=nx:=by omega
 have d5:¬nx=p:=by omega
 have d6:¬nx=q:=by omega
 by_cases e3:o=3∧nn=xn
 ·obtain⟨e3,en⟩:=e3
  rw[if_pos ⟨e3,by exact en⟩]at hR
  subst en
  have fo:=zi2 L
  have hl2:L.length+2≤16777216:=by omega
  have d7:¬q=nx+1:=by omega
  have d8:¬p=nx+1:=by omega
  have d9:¬p=nx+1+1:=by omega
  have d10:¬p=q:=n5
  have d11:¬nx=nx+1+1:=by omega
  cases op
  ·simp only[if_false,if_true,Bool.false_eq_true]at gp gq
   simp-implicitDefEqProofs[go_sem,e3,Fm.cs,d1,d2,d3,d4,d5,d6,d7,d8,d9,d10,d11,ga,gp,gq,za3,fo,hl2]
   generalize hg0:Tr.put _ p _=h0
   obtain⟨V0,hV0⟩:∃V0,V0=L++[m,IntKind.i64.wrap (m+1)]:=⟨_,rfl⟩
   have hvl:V0.length≤L.length+2:=by rw[hV0];simp
   rw[← hV0]at hR
   obtain⟨q0,hq0⟩:∃q0,q0=nx+1+1:=⟨_,rfl⟩
   have hqq:q0=q∨nx≤q0:=by omega
   have hB:ze5 p q nx h h0:=by
    rw[← hg0]
    simp(disch:=omega)only[zu0]
    exact fun _ _ _ _=>rfl
   have hS:StW ⟨nn,xk,xlo,xhi⟩ a p s q0 V0 h0 (nx+1+1+1):=by
    have a1:¬a=nx+1:=by omega
    have a2:¬a=nx+1+1:=by omega
    have a3:¬s=nx+1:=by omega
    have a4:¬s=nx+1+1:=by omega
    have a5:¬nx+1+1=p:=by omega
    refine⟨by omega,by omega,by omega,by omega,n1,by omega,n3,by omega,by omega,?_,⟨true,?_,?_⟩,?_⟩
    all_goals (rw[← hg0];simp[go_sem,a1,a2,a3,a4,a5,n1,n2,n3,n4,d1,d2,d3,d9,ga,gs,hq0,hV0,Fc.cs,za5])
   have gx:h0.get nx=some (bx 24 [.int .i64 3,.bs nn,.int .i64 cm,.int .i64 m,.fz 5 false (zat kids)] false 0):=by
    rw[← hg0];simp[go_sem,d5,d6,d11,e3]
   clear hg0
   refine zap (fun mm st=>∃tm h' nx' k V q',st=.mk tm h' nx' []∧mm=kids.length-k∧k≤kids.length∧tm.get 3=some (.ptr s 0)∧tm.get 26=some (.fz 5 false (zat kids))∧tm.get 27=some (.int .i64 (kids.length:Int))∧tm.get 28=some (.int .i64 (k:Int))∧ze5 p q nx h h'∧(q'=q∨nx≤q')∧StW ⟨nn,xk,xlo,xhi⟩ a p s q' V h' nx'∧nx≤nx'∧RowKit.Hid (V.length+2 * zae (kids.drop k)≤10000000∧zcs nn V0 kids=zcs nn V (kids.drop k))) ⟨kids.length,_,_,_,0,V0,q0,rfl,by simp,by simp,?_⟩ ?_
   ·simp-implicitDefEqProofs[go_sem,gx,hB,hqq,hS]
    refine⟨by omega,Lib.hid ?_⟩
    have:=hvl
    omega
   ·rintro mm st ⟨tm,h',nx',k,V,q',rfl,rfl,hk,t3,t26,t27,t28,hB',hq',hS',hn',hv⟩ J hJ
    refine zag za4 _ ?_
    by_cases hlt:k<kids.length
    ·obtain⟨s1,_,s3⟩:=zfn hlt
     obtain⟨hv1,hv2⟩:=hv.out
     have hd:kids.drop k=kids[k]::kids.drop (k+1):=List.drop_eq_getElem_cons hlt
     rw[hd]at hv1 hv2
     simp only[zae,zcs]at hv1 hv2
     have hnl:=zlb nn kids[k] V
     have HD:=Lib.hid (And.intro (show (zcf nn V kids[k]).length+2 * zae (kids.drop (k+1))≤10000000 by omega) hv2)
     have hck:V.length+2 * kids[k].size≤10000000:=by omega
     clear hv1 hv2 hnl hd
     have gs':=hS'.gs
     have ls':=hS'.ls
     have m1:¬s=nx':=by omega
     simp-implicitDefEqProofs[go_sem,t3,t26,t27,t28,hlt,gs',m1]
     have he2:∀x y,Ext nx' h' ((h'.put nx' x).put nx' y):=fun x y=>((Ext.refl nx' h').put (Nat.le_refl _) _).put (Nat.le_refl _) _
     refine ih kids[k] V _ _ q' _ (by omega) (by omega) hck (hS'.mono (he2 _ _) (by omega)) fun g ny q2 b1 b2 b3 b4=>?_
     simp-implicitDefEqProofs[go_sem,za0,t3,t26,t27,t28]
     refine hJ (kids.length-(k+1)) _ (by omega) ⟨_,_,_,k+1,zcf nn V kids[k],q2,rfl,rfl,by omega,?_⟩
     simp(disch:=omega) [go_sem,t3,t26,t27,t28,zab]
     exact⟨(hB'.ext hn' (he2 _ _)).trans (by omega) (by omega) b1,by omega,b4,by omega,HD⟩
    ·simp-implicitDefEqProofs[go_sem,t3,t26,t27,t28,hlt]
     refine hR _ _ q' hB' hq' (by omega) ?_
     have:=hv.out.2
     rw[List.drop_of_length_le (by omega),zcs]at this
     rw[this]
     exact hS'
  ·simp only[if_true]at gp gq
   simp-implicitDefEqProofs[go_sem,e3,Fm.cs,d1,d2,d3,d4,d5,d6,d7,d8,d9,d10,d11,ga,gp,gq,za3,fo,hl2]
   generalize hg0:Tr.put _ p _=h0
   obtain⟨V0,hV0⟩:∃V0,V0=L++[m,IntKind.i64.wrap (m+1)]:=⟨_,rfl⟩
   have hvl:V0.length≤L.length+2:=by rw[hV0];simp
   rw[← hV0]at hR
   obtain⟨q0,hq0⟩:∃q0,q0=nx+1+1:=⟨_,rfl⟩
   have hqq:q0=q∨nx≤q0:=by omega
   have hB:ze5 p q nx h h0:=by
    rw[← hg0]
    simp(disch:=omega)only[zu0]
    exact fun _ _ _ _=>rfl
   have hS:StW ⟨nn,xk,xlo,xhi⟩ a p s q0 V0 h0 (nx+1+1+1):=by
    have a1:¬a=nx+1:=by omega
    have a2:¬a=nx+1+1:=by omega
    have a3:¬s=nx+1:=by omega
    have a4:¬s=nx+1+1:=by omega
    have a5:¬nx+1+1=p:=by omega
    refine⟨by omega,by omega,by omega,by omega,n1,by omega,n3,by omega,by omega,?_,⟨true,?_,?_⟩,?_⟩
    all_goals (rw[← hg0];simp[go_sem,a1,a2,a3,a4,a5,n1,n2,n3,n4,d1,d2,d3,d9,ga,gs,hq0,hV0,Fc.cs,za5])
   have gx:h0.get nx=some (bx 24 [.int .i64 3,.bs nn,.int .i64 cm,.int .i64 m,.fz 5 false (zat kids)] false 0):=by
    rw[← hg0];simp[go_sem,d5,d6,d11,e3]
   clear hg0
   refine zap (fun mm st=>∃tm h' nx' k V q',st=.mk tm h' nx' []∧mm=kids.length-k∧k≤kids.length∧tm.get 3=some (.ptr s 0)∧tm.get 26=some (.fz 5 false (zat kids))∧tm.get 27=some (.int .i64 (kids.length:Int))∧tm.get 28=some (.int .i64 (k:Int))∧ze5 p q nx h h'∧(q'=q∨nx≤q')∧StW ⟨nn,xk,xlo,xhi⟩ a p s q' V h' nx'∧nx≤nx'∧RowKit.Hid (V.length+2 * zae (kids.drop k)≤10000000∧zcs nn V0 kids=zcs nn V (kids.drop k))) ⟨kids.length,_,_,_,0,V0,q0,rfl,by simp,by simp,?_⟩ ?_
   ·simp-implicitDefEqProofs[go_sem,gx,hB,hqq,hS]
    refine⟨by omega,Lib.hid ?_⟩
    have:=hvl
    omega
   ·rintro mm st ⟨tm,h',nx',k,V,q',rfl,rfl,hk,t3,t26,t27,t28,hB',hq',hS',hn',hv⟩ J hJ
    refine zag za4 _ ?_
    by_cases hlt:k<kids.length
    ·obtain⟨s1,_,s3⟩:=zfn hlt
     obtain⟨hv1,hv2⟩:=hv.out
     have hd:kids.drop k=kids[k]::kids.drop (k+1):=List.drop_eq_getElem_cons hlt
     rw[hd]at hv1 hv2
     simp only[zae,zcs]at hv1 hv2
     have hnl:=zlb nn kids[k] V
     have HD:=Lib.hid (And.intro (show (zcf nn V kids[k]).length+2 * zae (kids.drop (k+1))≤10000000 by omega) hv2)
     have hck:V.length+2 * kids[k].size≤10000000:=by omega
     clear hv1 hv2 hnl hd
     have gs':=hS'.gs
     have ls':=hS'.ls
     have m1:¬s=nx':=by omega
     simp-implicitDefEqProofs[go_sem,t3,t26,t27,t28,hlt,gs',m1]
     have he2:∀x y,Ext nx' h' ((h'.put nx' x).put nx' y):=fun x y=>((Ext.refl nx' h').put (Nat.le_refl _) _).put (Nat.le_refl _) _
     refine ih kids[k] V _ _ q' _ (by omega) (by omega) hck (hS'.mono (he2 _ _) (by omega)) fun g ny q2 b1 b2 b3 b4=>?_
     simp-implicitDefEqProofs[go_sem,za0,t3,t26,t27,t28]
     refine hJ (kids.length-(k+1)) _ (by omega) ⟨_,_,_,k+1,zcf nn V kids[k],q2,rfl,rfl,by omega,?_⟩
     simp(disch:=omega) [go_sem,t3,t26,t27,t28,zab]
     exact⟨(hB'.ext hn' (he2 _ _)).trans (by omega) (by omega) b1,by omega,b4,by omega,HD⟩
    ·simp-implicitDefEqProofs[go_sem,t3,t26,t27,t28,hlt]
     refine hR _ _ q' hB' hq' (by omega) ?_
     have:=hv.out.2
     rw[List.drop_of_length_le (by omega),zcs]at this
     rw[this]
     exact hS'
 ·rw[if_neg e3]at hR
  have hsel:(o=3∧¬nn=xn)∨¬o=3:=by
   by_cases e:o=3
   ·exact .inl ⟨e,fun q=>e3 ⟨e,q⟩⟩
   ·exact .inr e
  have fin:∀h0,h0=h.put nx (some (bx 24 [.int .i64 o,.bs nn,.int .i64 cm,.int .i64 m,.fz 5 false (zat kids)] false 0))→ze5 p q nx h h0∧StW ⟨xn,xk,xlo,xhi⟩ a p s q L h0 (nx+1)∧h0.get nx=some (bx 24 [.int .i64 o,.bs nn,.int .i64 cm,.int .i64 m,.fz 5 false (zat kids)] false 0):=by
   rintro _ rfl
   refine⟨?_,StW.mono ⟨la,lp,ls,lq,n1,n2,n3,n4,n5,ga,⟨op,gp,gq⟩,gs⟩ ((Ext.refl nx h).put (Nat.le_refl _) _) (by omega),by simp[go_sem]⟩
   simp(disch:=omega)only[zu0]
   exact fun _ _ _ _=>rfl
  obtain⟨q0,hq0⟩:∃q0,q0=q:=⟨_,rfl⟩
  obtain⟨V0,hV0⟩:∃V0,V0=L:=⟨_,rfl⟩
  have hvl:V0.length≤L.length+2:=by rw[hV0];omega
  rw[← hV0]at hR
  have hqq:q0=q∨nx≤q0:=by omega
  have key:∀h0,ze5 p q nx h h0→StW ⟨xn,xk,xlo,xhi⟩ a p s q0 V0 h0 (nx+1)→True:=fun _ _ _=>trivial
  clear key
  rcases hsel with⟨e3,en⟩ |e3
  ·simp-implicitDefEqProofs[go_sem,e3,en,Fm.cs,d1,d2,d3,d4,d5,d6,ga,gp,gq]
   obtain⟨hB,hS,gx⟩:=fin _ rfl
   rw[← hq0,← hV0]at hS
   simp only[e3]at hB hS gx
   generalize h.put nx (some (bx 24 [.int .i64 3,.bs nn,.int .i64 cm,.int .i64 m,.fz 5 false (zat kids)] false 0))=h0 at hB hS gx
   refine zap (fun mm st=>∃tm h' nx' k V q',st=.mk tm h' nx' []∧mm=kids.length-k∧k≤kids.length∧tm.get 3=some (.ptr s 0)∧tm.get 26=some (.fz 5 false (zat kids))∧tm.get 27=some (.int .i64 (kids.length:Int))∧tm.get 28=some (.int .i64 (k:Int))∧ze5 p q nx h h'∧(q'=q∨nx≤q')∧StW ⟨xn,xk,xlo,xhi⟩ a p s q' V h' nx'∧nx≤nx'∧RowKit.Hid (V.length+2 * zae (kids.drop k)≤10000000∧zcs xn V0 kids=zcs xn V (kids.drop k))) ⟨kids.length,_,_,_,0,V0,q0,rfl,by simp,by simp,?_⟩ ?_
   ·simp-implicitDefEqProofs[go_sem,gx,hB,hqq,hS]
    refine Lib.hid ?_
    have:=hvl
    omega
   ·rintro mm st ⟨tm,h',nx',k,V,q',rfl,rfl,hk,t3,t26,t27,t28,hB',hq',hS',hn',hv⟩ J hJ
    refine zag za4 _ ?_
    by_cases hlt:k<kids.length
    ·obtain⟨s1,_,s3⟩:=zfn hlt
     obtain⟨hv1,hv2⟩:=hv.out
     have hd:kids.drop k=kids[k]::kids.drop (k+1):=List.drop_eq_getElem_cons hlt
     rw[hd]at hv1 hv2
     simp only[zae,zcs]at hv1 hv2
     have hnl:=zlb xn kids[k] V
     have HD:=Lib.hid (And.intro (show (zcf xn V kids[k]).length+2 * zae (kids.drop (k+1))≤10000000 by omega) hv2)
     have hck:V.length+2 * kids[k].size≤10000000:=by omega
     clear hv1 hv2 hnl hd
     have gs':=hS'.gs
     have ls':=hS'.ls
     have m1:¬s=nx':=by omega
     simp-implicitDefEqProofs[go_sem,t3,t26,t27,t28,hlt,gs',m1]
     have he2:∀x y,Ext nx' h' ((h'.put nx' x).put nx' y):=fun x y=>((Ext.refl nx' h').put (Nat.le_refl _) _).put (Nat.le_refl _) _
     refine ih kids[k] V _ _ q' _ (by omega) (by omega) hck (hS'.mono (he2 _ _) (by omega)) fun g ny q2 b1 b2 b3 b4=>?_
     simp-implicitDefEqProofs[go_sem,za0,t3,t26,t27,t28]
     refine hJ (kids.length-(k+1)) _ (by omega) ⟨_,_,_,k+1,zcf xn V kids[k],q2,rfl,rfl,by omega,?_⟩
     simp(disch:=omega) [go_sem,t3,t26,t27,t28,zab]
     exact⟨(hB'.ext hn' (he2 _ _)).trans (by omega) (by omega) b1,by omega,b4,by omega,HD⟩
    ·simp-implicitDefEqProofs[go_sem,t3,t26,t27,t28,hlt]
     refine hR _ _ q' hB' hq' (by omega) ?_
     have:=hv.out.2
     rw[List.drop_of_length_le (by omega),zcs]at this
     rw[this]
     exact hS'
  ·simp-implicitDefEqProofs[go_sem,e3,Fm.cs,d1,d2,d3,d4,d5,d6,ga,gp,gq]
   obtain⟨hB,hS,gx⟩:=fin _ rfl
   rw[← hq0,← hV0]at hS
   generalize h.put nx (some (bx 24 [.int .i64 o,.bs nn,.int .i64 cm,.int .i64 m,.fz 5 false (zat kids)] false 0))=h0 at hB hS gx
   refine zap (fun mm st=>∃tm h' nx' k V q',st=.mk tm h' nx' []∧mm=kids.length-k∧k≤kids.length∧tm.get 3=some (.ptr s 0)∧tm.get 26=some (.fz 5 false (zat kids))∧tm.get 27=some (.int .i64 (kids.length:Int))∧tm.get 28=some (.int .i64 (k:Int))∧ze5 p q nx h h'∧(q'=q∨nx≤q')∧StW ⟨xn,xk,xlo,xhi⟩ a p s q' V h' nx'∧nx≤nx'∧RowKit.Hid (V.length+2 * zae (kids.drop k)≤10000000∧zcs xn V0 kids=zcs xn V (kids.drop k))) ⟨kids.length,_,_,_,0,V0,q0,rfl,by simp,by simp,?_⟩ ?_
   ·simp-implicitDefEqProofs[go_sem,gx,hB,hqq,hS]
    refine Lib.hid ?_
    have:=hvl
    omega
   ·rintro mm st ⟨tm,h',nx',k,V,q',rfl,rfl,hk,t3,t26,t27,t28,hB',hq',hS',hn',hv⟩ J hJ
    refine zag za4 _ ?_
    by_cases hlt:k<kids.length
    ·obtain⟨s1,_,s3⟩:=zfn hlt
     obtain⟨hv1,hv2⟩:=hv.out
     have hd:kids.drop k=kids[k]::kids.drop (k+1):=List.drop_eq_getElem_cons hlt
     rw[hd]at hv1 hv2
     simp only[zae,zcs]at hv1 hv2
     have hnl:=zlb xn kids[k] V
     have HD:=Lib.hid (And.intro (show (zcf xn V kids[k]).length+2 * zae (kids.drop (k+1))≤10000000 by omega) hv2)
     have hck:V.length+2 * kids[k].size≤10000000:=by omega
     clear hv1 hv2 hnl hd
     have gs':=hS'.gs
     have ls':=hS'.ls
     have m1:¬s=nx':=by omega
     simp-implicitDefEqProofs[go_sem,t3,t26,t27,t28,hlt,gs',m1]
     have he2:∀x y,Ext nx' h' ((h'.put nx' x).put nx' y):=fun x y=>((Ext.refl nx' h').put (Nat.le_refl _) _).put (Nat.le_refl _) _
     refine ih kids[k] V _ _ q' _ (by omega) (by omega) hck (hS'.mono (he2 _ _) (by omega)) fun g ny q2 b1 b2 b3 b4=>?_
     simp-implicitDefEqProofs[go_sem,za0,t3,t26,t27,t28]
     refine hJ (kids.length-(k+1)) _ (by omega) ⟨_,_,_,k+1,zcf xn V kids[k],q2,rfl,rfl,by omega,?_⟩
     simp(disch:=omega) [go_sem,t3,t26,t27,t28,zab]
     exact⟨(hB'.ext hn' (he2 _ _)).trans (by omega) (by omega) b1,by omega,b4,by omega,HD⟩
    ·simp-implicitDefEqProofs[go_sem,t3,t26,t27,t28,hlt]
     refine hR _ _ q' hB' hq' (by omega) ?_
     have:=hv.out.2
     rw[List.drop_of_length_le (by omega),zcs]at this
     rw[this]
     exact hS'
end
end Go.Ev
namespace Go.Ev
open Go.Proofs Go.RowKit
noncomputable section
theorem zHf (b o:Nat) (lo hi x:Int)(W:World)(h2:W.cell? ⟨b,o+2,none⟩=some (.int .i64 lo))(h3:W.cell? ⟨b,o+3,none⟩=some (.int .i64 hi)):
  Calls Tryz.prog 202 #[.int .i64 x,.pointer (some ⟨b,o,none⟩)] W fun e w'=>e=.returned (.bool (decide (x<lo) || decide (hi<x)))∧w'=W:=by
 go_enter Tryz.func202,Tryz.ntmps202
 go_wp2
 ·go_ret
  rename_i hx
  exact⟨by simp[hx],rfl⟩
 ·go_ret
  exact⟨rfl,rfl⟩
open Go.Sort in
theorem zBt {W:World}{b o:Nat}{C:Array Value}{t:TypeId}{fr:Nat×Nat}{V:Value}(h:W.heap[b]?=some (.cells C t fr))(hv:C[o]?=some V):W.cell? ⟨b,o,none⟩=some V:=by
 simp[World.cell?,h,hv]
theorem zOq:cx.ft.get 201=some Tryz.f201:=za9 (by decide) (by kernel_rfl)
theorem zH9:cx.ft.get 203=some Tryz.f203:=za9 (by decide) (by kernel_rfl)
open Go.Sort in
theorem zG4 (f:Fc)(L:List Int)(h:Tr ABlk) (nx q cp esz:Nat)(opn opn':Bool)(hq:h.get q=some (bx 3 (za5 L) opn' esz))(hl:L.length<1000000000)(R:AV→Tr ABlk→Nat→Prop)
  (hR:R (.sl q 0 (L.filter fun x=>!zcb f x).length cp opn) (h.put q (some (bx 3 (za5 ((L.filter fun x=>!zcb f x)++List.replicate (L.length-(L.filter fun x=>!zcb f x).length) 0)) opn' esz))) nx):za7 Tryz.prog cx 201 [.sl q 0 L.length cp opn,.func 202 [] [.ip f.cs]] h nx R:=by
 refine zum za4 zOq (fun x:Int=>AV.int .i64 x) (Value.int .i64) (fun σ x V=>ztt σ x V) (l:=L) (rest:=[.func 202 [] [.ip f.cs]]) hq (by omega) (fun d u=>d=(L.filter fun x=>!zcb f x)++List.replicate (L.length-(L.filter fun x=>!zcb f x).length) 0∧u=.sl q 0 (L.filter fun x=>!zcb f x).length cp opn) ?_ ?_
 ·intro σ w RA b cap hk hRA hH hb hbq hcap hcl
  rw[List.drop_zero,List.take_length]at hH
  simp only[za1,Rel]at hRA
  obtain⟨V,RA',rfl,⟨A,Cc,rfl,rfl,V1,L1,rfl,⟨b0,o0,C,LL,rfl,hi,hLL,hLe⟩,rfl⟩,rfl⟩:=hRA
  obtain⟨⟨t,fr,hheap⟩,hown⟩:=hk.imm b0 C hi
  have hne:b0≠b:=fun e=>hown q _ hq (e ▸ hbq)
  have hb0:b0<w.heap.size:=zl1 hheap
  have hc2:C[o0+2]?=some (.int .i64 f.lo)∧C[o0+3]?=some (.int .i64 f.hi):=by
   simp only[Fc.cs,za1,Rel]at hLL
   obtain⟨W0,L0,rfl,e0,W1,L1,rfl,e1,W2,L2,rfl,e2,W3,L3,rfl,e3,rfl⟩:=hLL
   subst e2
   subst e3
   have h2:=congrArg (fun l:List Value=>l[2]?) hLe
   have h3:=congrArg (fun l:List Value=>l[3]?) hLe
   simp[List.getElem?_take,List.getElem?_drop]at h2 h3
   exact⟨h2.symm,h3.symm⟩
  have key:∀(W:World),W.heap[b0]?=w.heap[b0]?→∀x:Int,Calls Tryz.prog 202 #[.int .i64 x,.pointer (some ⟨b0,o0,none⟩)] W fun e w'=>e=.returned (.bool (zcb f x))∧w'=W:=by
   intro W hW x
   rw[hheap]at hW
   exact zHf b0 o0 f.lo f.hi x W (zBt hW (by simpa using hc2.1)) (zBt hW (by simpa using hc2.2))
  have hc:=AnyE.slices_DeleteFunc Tryz.delete201 (Value.int .i64) (fun _=>rfl) (zcb f) 202 #[.pointer (some ⟨b0,o0,none⟩)] ?_ 0 ?_ b 0 cap L.toArray w ?_ ?_ hH (by simp;omega) (by simpa using hcl)
  ·rw[List.size_toArray]at hc
   refine hc.mono ?_
   rintro e x ⟨rfl,n,rfl⟩
   refine⟨_,.sl q 0 (L.filter fun x=>!zcb f x).length cp opn,n,#[],(L.filter fun x=>!zcb f x)++List.replicate (L.length-(L.filter fun x=>!zcb f x).length) 0,rfl,?_,?_,⟨rfl,rfl⟩,by simp⟩
   ·simp only[Rel]
    have:=List.length_filter_le (fun x=>!zcb f x) L
    exact⟨b,hbq,by rw[hcap],by rw[← hcap];omega⟩
   ·have:=List.length_filter_le (fun x=>!zcb f x) L
    simp
    omega
  ·exact(za4.ft 202 _ zSk).2
  ·intro w
   exact Tryz.zeroValue3 w
  ·intro W x hB
   refine(key W (hB.block b0 hb0) x).mono ?_
   rintro e w' ⟨rfl,rfl⟩
   exact⟨rfl,0,rfl⟩
  ·intro n os dk x hdk
   refine(key _ ?_ x).mono ?_
   ·unfold sortWorld
    rw[heap_grow_old _ _ (by simpa[putRow,mapBlock,Go.Sort.ahead]using hb0)]
    simp only[putRow,mapBlock,Go.Sort.ahead,Array.getElem?_modify]
    rw[if_neg (fun e=>hne e.symm)]
   ·rintro e w' ⟨rfl,rfl⟩
    exact⟨rfl,0,rfl⟩
 ·rintro d u _ ⟨rfl,rfl⟩
  have e1:L.take 0++(((L.filter fun x=>!zcb f x)++List.replicate (L.length-(L.filter fun x=>!zcb f x).length) 0)++L.drop (0+L.length))=(L.filter fun x=>!zcb f x)++List.replicate (L.length-(L.filter fun x=>!zcb f x).length) 0:=by simp
  rw[e1]
  exact hR
def zby (L:List Int):List Int:=Lib.compact L
theorem zx3 (L:List Int):(zby L).length≤L.length:=by
 have:=List.length_filter_le (Lib.keeps L.toArray) (List.range L.length)
 simpa[zby,Lib.compact,Lib.compactUpTo]using this
open Go.Sort in
theorem zCw (L r:List Int)(h:Tr ABlk) (nx q cp esz:Nat)(opn opn':Bool)(hq:h.get q=some (bx 3 (za5 (L++r)) opn' esz))(hl:L.length<1000000000)(R:AV→Tr ABlk→Nat→Prop)
  (hR:∀r',R (.sl q 0 (zby L).length cp opn) (h.put q (some (bx 3 (za5 (zby L++r')) opn' esz))) nx):za7 Tryz.prog cx 203 [.sl q 0 L.length cp opn] h nx R:=by
 refine zum za4 zH9 (fun x:Int=>AV.int .i64 x) (Value.int .i64) (fun σ x V=>ztt σ x V) (l:=L++r) (rest:=[]) hq (by simp) (fun d u=>d=zby L++List.replicate (L.length-(zby L).length) 0∧u=.sl q 0 (zby L).length cp opn) ?_ ?_
 ·intro σ w RA b cap hk hRA hH hb hbq hcap hcl
  simp only[za1]at hRA
  subst hRA
  rw[List.drop_zero,List.take_left]at hH
  refine(Any.slices_Compact_int Tryz.lays2n20 b 0 cap L w hH (by omega) hcl).mono ?_
  rintro e x ⟨rfl,n,rfl⟩
  have hle:=zx3 L
  refine⟨_,.sl q 0 (zby L).length cp opn,n,#[],zby L++List.replicate (L.length-(zby L).length) 0,rfl,?_,by simp;omega,⟨rfl,rfl⟩,by simp[zby]⟩
  simp only[Rel]
  exact⟨b,hbq,by rw[hcap];rfl,by rw[← hcap];omega⟩
 ·rintro d u _ ⟨rfl,rfl⟩
  have e1:(L++r).take 0++((zby L++List.replicate (L.length-(zby L).length) 0)++(L++r).drop (0+L.length))=zby L++(List.replicate (L.length-(zby L).length) 0++r):=by simp
  rw[e1]
  exact hR _
end
end Go.Ev
