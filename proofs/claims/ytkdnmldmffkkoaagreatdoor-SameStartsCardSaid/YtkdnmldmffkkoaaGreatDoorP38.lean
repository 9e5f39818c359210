/- Texts PA. -/
import Derived.Test.YtkdnmldmffkkoaaGreatDoorP29
import Derived.Test.YtkdnmldmffkkoaaGreatDoorP37
set_option linter.unusedSimpArgs false
set_option linter.unusedVariables false
set_option maxRecDepth 100000
namespace Go.Ev
open Go.Proofs Go.RowKit
noncomputable section
def za2 (n:Nat):AV:=.int .u8 (.ofNat n)
def zua:List AV:=[za2 0,za2 0,za2 0,za2 0,za2 0,za2 0,za2 0,za2 0,za2 0,za2 1,za2 1,za2 0,za2 0,za2 0,za2 0,za2 0,za2 0,za2 0,za2 0,za2 0,za2 0,za2 0,za2 0,za2 0,za2 0,za2 0,za2 0,za2 0,za2 0,za2 0,za2 0,za2 0,za2 1,za2 8,za2 0,za2 2,za2 0,za2 0,za2 0,za2 0,za2 6,za2 6,za2 0,za2 0,za2 6,za2 0,za2 6,za2 0,za2 4,za2 4,za2 4,za2 4,za2 4,za2 4,za2 4,za2 4,za2 4,za2 4,za2 6,za2 6,za2 7,za2 6,za2 7,za2 0,za2 0,za2 3,za2 3,za2 3,za2 3,za2 3,za2 3,za2 3,za2 3,za2 3,za2 3,za2 3,za2 3,za2 3,za2 3,za2 3,za2 3,za2 3,za2 3,za2 3,za2 3,za2 3,za2 3,za2 3,za2 3,za2 3,za2 3,za2 6,za2 0,za2 6,za2 0,za2 5,za2 0,za2 3,za2 3,za2 3,za2 3,za2 3,za2 3,za2 3,za2 3,za2 3,za2 3,za2 3,za2 3,za2 3,za2 3,za2 3,za2 3,za2 3,za2 3,za2 3,za2 3,za2 3,za2 3,za2 3,za2 3,za2 3,za2 3,za2 6,za2 0,za2 6,za2 0,za2 0,za2 0,za2 0,za2 0,za2 0,za2 0,za2 0,za2 0,za2 0,za2 0,za2 0,za2 0,za2 0,za2 0,za2 0,za2 0,za2 0,za2 0,za2 0,za2 0,za2 0,za2 0,za2 0,za2 0,za2 0,za2 0,za2 0,za2 0,za2 0,za2 0,za2 0,za2 0,za2 0,za2 0,za2 0,za2 0,za2 0,za2 0,za2 0,za2 0,za2 0,za2 0,za2 0,za2 0,za2 0,za2 0,za2 0,za2 0,za2 0,za2 0,za2 0,za2 0,za2 0,za2 0,za2 0,za2 0,za2 0,za2 0,za2 0,za2 0,za2 0,za2 0,za2 0,za2 0,za2 0,za2 0,za2 0,za2 0,za2 0,za2 0,za2 0,za2 0,za2 0,za2 0,za2 0,za2 0,za2 0,za2 0,za2 0,za2 0,za2 0,za2 0,za2 0,za2 0,za2 0,za2 0,za2 0,za2 0,za2 0,za2 0,za2 0,za2 0,za2 0,za2 0,za2 0,za2 0,za2 0,za2 0,za2 0,za2 0,za2 0,za2 0,za2 0,za2 0,za2 0,za2 0,za2 0,za2 0,za2 0,za2 0,za2 0,za2 0,za2 0,za2 0,za2 0,za2 0,za2 0,za2 0,za2 0,za2 0,za2 0,za2 0,za2 0,za2 0,za2 0,za2 0,za2 0,za2 0,za2 0]
theorem zUr:zcd zdv=zua:=by kernel_rfl
def G2:Gl:=⟨6,false,zjh⟩
def cx2:Cx:=cxQ false Tryz.prog G2 400 357
theorem zoj:CxOk Tryz.prog cx2:=zF1 _ _ _ _ _
theorem zlx:cx2.G=G2:=rfl
theorem zPx:Ret Tryz.prog cx2 220 [] (.agg zua):=by
 have h:=zyh
 rw[zUr]at h
 exact h.tab (by rw[zlx,cxG];rfl) (fun g cs h=>by rw[zlx];rw[cxG]at h;exact h)
def zx6 (ca:Ca):Ca:=fun f args h nx=>match Nat.beq f 220 with
 |true=>match args with
  |[]=>.ok (.agg zua) h nx
  |_=>.fail
 |false=>ca f args h nx
theorem zMh {ca:Ca}(hca:zcw Tryz.prog cx2 ca):zcw Tryz.prog cx2 (zx6 ca):=by
 intro f args h nx v g ny he
 unfold zx6 at he
 cases hf:Nat.beq f 220 with
 |false=>rw[hf]at he;exact hca f args h nx v g ny he
 |true=>
  rw[hf]at he
  have e1:=Nat.eq_of_beq_eq_true hf
  subst e1
  simp only at he
  split at he
  ·cases he
   exact zPx h nx
  ·cases he
def evP (c:Cx):CY:=ev c (fun ca=>zx6 (zve 266 (zr9 275 (zqp 315 ca)))) (fun ca ya=>edW c ca ya) 100000 60
def hmB (f:FuncId):Bool:=Nat.beq f 107 || Nat.beq f 109
def zlt (f:Nat)(args:List AV):CO:=
 zfx (zju false Tryz.prog) 400 fun tt=>zfx (zg4 Tryz.prog) 357 fun ft=>zot (.mk tt .nil ft G2 (zl8 Tryz.prog)) (evP (.mk tt .nil ft G2 (zl8 Tryz.prog))).ca (evP (.mk tt .nil ft G2 (zl8 Tryz.prog))).ya (fun ca ya=>edW (.mk tt .nil ft G2 (zl8 Tryz.prog)) ca ya) 100000 20 hmB f args .nil 6
theorem zO3 (f:Nat)(args:List AV):zlt f args=zot cx2 (evP cx2).ca (evP cx2).ya (fun ca ya=>edW cx2 ca ya) 100000 20 hmB f args .nil 6:=by
 unfold zlt
 rw[zjq]
 show zfx (zg4 Tryz.prog) 357 _=_
 rw[zjq]
 rfl
theorem zwr {b:Bool}{P:Program}{G:Gl}{nt nf:Nat}{f:FuncId}{fn:Func}(hf:f<nf)(h:zg4 P f=some fn):(cxQ b P G nt nf).ft.get f=some fn:=by
 show (tab (zg4 P) nf).get f=_
 rw[zq9 _ _ _ hf]
 exact h
theorem zOa:cx2.ft.get 107=some Tryz.f107:=zwr (by decide) (by kernel_rfl)
theorem zHz:cx2.ft.get 109=some Tryz.f109:=zwr (by decide) (by kernel_rfl)
theorem zQd:cx2.ft.get 266=some Tryz.f266:=zwr (by decide) (by kernel_rfl)
theorem zqz:zcw Tryz.prog cx2 (evP cx2).ca∧zfc Tryz.prog cx2 (evP cx2).ya:=
 ztr zoj (fun _ hca=>zMh (zR6 zoj zQd rfl (zCc zAk (zFi zAz hca)))) (fun _ _ h1 h2=>zwa mixed zoj h1 h2) 100000 60
theorem zHv (f:FuncId)(h:hmB f=true):zmc Tryz.prog f∧∃fd,cx2.ft.get f=some fd:=by
 unfold hmB at h
 rcases Bool.or_eq_true _ _ ▸ h with h |h
 ·have:=Nat.eq_of_beq_eq_true h
  subst this
  exact⟨zTz,_,zOa⟩
 ·have:=Nat.eq_of_beq_eq_true h
  subst this
  exact⟨zPf,_,zHz⟩
theorem zO1 {f:Nat}{args:List AV}{v:AV}{g:Tr ABlk}{ny:Nat}(h:zlt f args=.ok v g ny):za7 Tryz.prog cx2 f args .nil 6 (eqQ v g ny):=by
 rw[zO3]at h
 exact zSb zoj zqz.1 zqz.2 (zwa mixed zoj zqz.1 zqz.2) 100000 20 zHv h
def znb (r:CO)(u:AV):Bool:=match r with
 |.ok v g _=>zlh v u && ((g.get 0).isNone && ((g.get 1).isNone && ((g.get 2).isNone && ((g.get 3).isNone && ((g.get 4).isNone && (g.get 5).isNone)))))
 |_=>false
theorem zHj {r:CO}{u:AV}(h:znb r u=true):∃g ny,r=.ok u g ny∧∀k,k<6→g.get k=none:=by
 unfold znb at h
 split at h
 ·rename_i v g ny
  simp only[Bool.and_eq_true,Option.isNone_iff_eq_none]at h
  obtain⟨a1,a2,a3,a4,a5,a6,a7⟩:=h
  refine⟨g,ny,by rw[zoy _ _ a1],fun k hk=>?_⟩
  match k,hk with
  |0,_=>exact a2
  |1,_=>exact a3
  |2,_=>exact a4
  |3,_=>exact a5
  |4,_=>exact a6
  |5,_=>exact a7
 ·cases h
theorem zRo {c:Cx}{f:FuncId}{l n:Nat}{h:Tr ABlk}{nx:Nat}{R:AV→Tr ABlk→Nat→Prop}(hn:n<256 ^ l)(hc:za7 Tryz.prog c f [.str l n] h nx R):za7 Tryz.prog c f [.bs (zai l n)] h nx R:=by
 intro σ w A ok hA
 refine hc σ w A ok ?_
 simp only[za1,Rel]at hA ⊢
 obtain⟨V,L,e1,e2,e3⟩:=hA
 exact⟨V,L,e1,⟨hn,e2⟩,e3⟩
def zvz:List AV:=[.str 2 12656,.int .i64 2,.int .i64 2,.str 3 7889268,.int .i64 5,.int .i64 3,.str 3 6645601,.int .i64 5,.int .i64 17,.sl0,.sl0,.int .i64 1,.str 0 0,.int .i64 0,.sl0,.int .i64 2,.str 0 0,.int .i64 0,.sl0,.int .i64 2,.str 0 0,.int .i64 0,.sl0]
def zw1:List AV:=[.str 2 12656,.int .i64 2,.int .i64 2,.str 3 7889268,.int .i64 5,.int .i64 3,.str 3 6645601,.int .i64 6,.int .i64 18,.sl0,.sl0,.int .i64 1,.str 0 0,.int .i64 0,.sl0,.int .i64 2,.str 0 0,.int .i64 0,.sl0,.int .i64 2,.str 0 0,.int .i64 0,.sl0]
theorem zQj:znb (zlt 53 [.str 36 89781595541612542812568825523659187207980448655586184664718868602066417287077645542241]) (.tup [.agg zvz,.int .i64 0,.int .i64 0])=true:=by kernel_rfl
theorem zI9:znb (zlt 54 [.str 56 264595181224963706763764876332338481802628273462540133092131193619448999099283750174640082424607421107054726622538880623048715957266551]) (.tup [.agg zw1,.int .i64 0,.int .i64 0])=true:=by kernel_rfl
theorem Ret.of_nilT {P:Program}{c:Cx}(hG:∀g cs,c.G.tab g=some cs→∀(σ τ:Sg) V,(∀b C,σ.imm b=some C→τ.imm b=some C)→σ.opq=τ.opq→Rel σ (.ip cs) V→Rel τ (.ip cs) V){fid:FuncId}{args:List AV}{u:AV}(ha:nfL args=true)(hu:nfV u=true)
  (hc:za7 P c fid args .nil c.G.n fun v g _=>Ext c.G.n .nil g∧Fz g c.G.n v u):Ret P c fid args u:=by
 intro h nx σ w A hk hA
 let σ0:Sg:={ blk:=fun i=>if i<c.G.n then some i else none,cap:=σ.cap,opq:=σ.opq,imm:=σ.imm }
 have hk0:Ok c.G σ0 .nil c.G.n w:=by
  refine⟨fun g hg=>if_pos hg,Nat.le_refl _,fun i hi=>if_neg (by omega),(fun i j b B B' h1=>by cases h1),(fun i B h1=>by cases h1),(fun b C hb=>⟨(hk.imm b C hb).1,(fun i B h1=>by cases h1)⟩),fun g cs hg=>?_⟩
  exact hG g cs hg σ σ0 _ (fun _ _ e=>e) rfl (hk.gl g cs hg)
 refine(hc σ0 w A hk0 (za1.nf (σ:=σ) (τ:=σ0) (fun _ _ e=>e) args A ha hA)).mono fun V x q=>?_
 obtain⟨τ,v,g,ny,q1,q2,q3,q4⟩:=q
 have p:=Post.frz hk0 q2 q3
 have hV:=q4.rel q2.ok V q1
 let τ':Sg:={ blk:=σ.blk,cap:=σ.cap,opq:=σ.opq,imm:=(τ.frz x g c.G.n).imm }
 have hle:σ.Le τ':=⟨fun _ _ e=>⟨e,rfl⟩,rfl,fun b C hb=>p.le.imm b C hb⟩
 have hkeep:∀b,b<w.heap.size→x.heap[b]?=w.heap[b]?:=fun b hb=>p.fr.keep b hb fun i B hi=>by cases hi
 refine⟨τ',u,h,nx,Rel.nf (σ:=τ.frz x g c.G.n) (τ:=τ') (fun _ _ e=>e) u V hu hV,⟨⟨hk.glob,hk.le,hk.fresh,hk.inj,fun i B h1=>?_,fun b C hb=>⟨(p.ok.imm b C hb).1,fun i B h1 e=>?_⟩,fun i cs hi=>(hk.gl i cs hi).mono hle⟩,hle,⟨p.fr.os,p.fr.tape,p.fr.output,p.fr.size,fun b hb _=>hkeep b hb,fun i B b h1 h2=>.inr ⟨i,B,h1,h2⟩,fun b C hb=>?_⟩,Nat.le_refl _⟩,rfl,rfl,rfl⟩
 ·obtain⟨b,o,r1,r2,r3⟩:=hk.blk i B h1
  exact⟨b,o,r1,by rw[hkeep b (zl1 r2)];exact r2,r3.mono hle r1⟩
 ·rcases p.fr.imm b C hb with h2 |h2 |⟨j,B',hj,_⟩
  ·exact(hk.imm b C h2).2 i B h1 e
  ·have:=hk.blt h1 e
   omega
  ·cases hj
 ·rcases p.fr.imm b C hb with h2 |h2 |⟨j,B',hj,_⟩
  ·exact .inl h2
  ·exact .inr (.inl h2)
  ·cases hj
theorem zNu:nfL zig=true:=by kernel_rfl
theorem zPd (g:Nat)(cs:List AV)(h:zjh g=some cs)(σ τ:Sg)(V:Value)(h1:∀b C,σ.imm b=some C→τ.imm b=some C)(h2:σ.opq=τ.opq)(hr:Rel σ (.ip cs) V):Rel τ (.ip cs) V:=by
 unfold zjh at h
 split at h
 ·cases h
  exact Rel.nf h1 _ V (by simpa only[nfV]using zNu) hr
 ·cases h
  simp only[Rel,za1]at hr ⊢
  obtain⟨b,o,C,L,e1,e2,⟨U,L',e3,⟨e4,e5⟩,e6⟩,e7⟩:=hr
  exact⟨b,o,C,L,e1,h1 _ _ e2,⟨U,L',e3,⟨by rw[e4,h2],e5⟩,e6⟩,e7⟩
 ·cases h
theorem zDi {f l n:Nat}{s:ByteArray}{u:List AV}(hs:zai l n=s)(hn:n<256 ^ l)(hr:znb (zlt f [.str l n]) (.tup [.agg u,.int .i64 0,.int .i64 0])=true)(hu:nfL u=true)(hp:zah u=true):Ret Tryz.prog cx f [.bs s] (.tup [.agg u,.int .i64 0,.int .i64 0]):=by
 obtain⟨g,ny,hr,hg⟩:=zHj hr
 have hc:=zO1 hr
 have h1:Ret Tryz.prog cx2 f [.str l n] (.tup [.agg u,.int .i64 0,.int .i64 0]):=by
  refine Ret.of_nilT (fun g cs h=>zPd g cs (by rw[zlx]at h;exact h)) rfl (by simp only[nfV,nfL,hu]) ?_
  rw[zlx]
  refine za7.mono hc ?_
  rintro v' g' ny' ⟨rfl,rfl,rfl⟩
  exact⟨fun k hk=>hg k hk,Fz.same _ (by simp[plain,zah,hp])⟩
 have h2:=h1.tab (c':=cx) (by rw[zlx,cxG];rfl) (fun g cs h=>by rw[cxG];rw[zlx]at h;exact h)
 intro h nx
 rw[← hs]
 exact zRo hn (h2 h nx)
def zn4:ByteArray:=⟨#[97,99,116,32,112,49,58,32,97,110,115,119,101,114,32,116,97,120,32,105,115,32,53,32,105,102,32,97,103,101,32,62,32,49,55,46]⟩
def znt:ByteArray:=⟨#[119,104,101,114,101,32,123,32,97,103,101,32,49,56,32,108,101,97,115,116,32,125,32,113,117,101,115,116,105,111,110,32,116,97,120,32,103,105,118,101,115,32,53,32,91,115,116,97,116,117,116,101,32,112,49,93]⟩
theorem zNx:Ret Tryz.prog cx 53 [.bs zn4] (.tup [.agg zvz,.int .i64 0,.int .i64 0]):=zDi (by kernel_rfl) (of_decide_eq_true (by kernel_rfl)) zQj (by kernel_rfl) (by kernel_rfl)
theorem zUc:Ret Tryz.prog cx 54 [.bs znt] (.tup [.agg zw1,.int .i64 0,.int .i64 0]):=zDi (by kernel_rfl) (of_decide_eq_true (by kernel_rfl)) zI9 (by kernel_rfl) (by kernel_rfl)
end
end Go.Ev
