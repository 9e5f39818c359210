/- Texts. -/
import Derived.Test.YtkdnmldmffkkoaaGreatDoorP29
import Derived.Test.YtkdnmldmffkkoaaGreatDoorP36
set_option linter.unusedSimpArgs false
set_option linter.unusedVariables false
set_option maxRecDepth 100000
namespace Go.Ev
open Go.Proofs Go.RowKit
noncomputable section
def aD (n:Nat):AV:=.int .u8 (.ofNat n)
def QN:List AV:=[aD 0,aD 0,aD 0,aD 0,aD 0,aD 0,aD 0,aD 0,aD 0,aD 1,aD 1,aD 0,aD 0,aD 0,aD 0,aD 0,aD 0,aD 0,aD 0,aD 0,aD 0,aD 0,aD 0,aD 0,aD 0,aD 0,aD 0,aD 0,aD 0,aD 0,aD 0,aD 0,aD 1,aD 8,aD 0,aD 2,aD 0,aD 0,aD 0,aD 0,aD 6,aD 6,aD 0,aD 0,aD 6,aD 0,aD 6,aD 0,aD 4,aD 4,aD 4,aD 4,aD 4,aD 4,aD 4,aD 4,aD 4,aD 4,aD 6,aD 6,aD 7,aD 6,aD 7,aD 0,aD 0,aD 3,aD 3,aD 3,aD 3,aD 3,aD 3,aD 3,aD 3,aD 3,aD 3,aD 3,aD 3,aD 3,aD 3,aD 3,aD 3,aD 3,aD 3,aD 3,aD 3,aD 3,aD 3,aD 3,aD 3,aD 3,aD 3,aD 6,aD 0,aD 6,aD 0,aD 5,aD 0,aD 3,aD 3,aD 3,aD 3,aD 3,aD 3,aD 3,aD 3,aD 3,aD 3,aD 3,aD 3,aD 3,aD 3,aD 3,aD 3,aD 3,aD 3,aD 3,aD 3,aD 3,aD 3,aD 3,aD 3,aD 3,aD 3,aD 6,aD 0,aD 6,aD 0,aD 0,aD 0,aD 0,aD 0,aD 0,aD 0,aD 0,aD 0,aD 0,aD 0,aD 0,aD 0,aD 0,aD 0,aD 0,aD 0,aD 0,aD 0,aD 0,aD 0,aD 0,aD 0,aD 0,aD 0,aD 0,aD 0,aD 0,aD 0,aD 0,aD 0,aD 0,aD 0,aD 0,aD 0,aD 0,aD 0,aD 0,aD 0,aD 0,aD 0,aD 0,aD 0,aD 0,aD 0,aD 0,aD 0,aD 0,aD 0,aD 0,aD 0,aD 0,aD 0,aD 0,aD 0,aD 0,aD 0,aD 0,aD 0,aD 0,aD 0,aD 0,aD 0,aD 0,aD 0,aD 0,aD 0,aD 0,aD 0,aD 0,aD 0,aD 0,aD 0,aD 0,aD 0,aD 0,aD 0,aD 0,aD 0,aD 0,aD 0,aD 0,aD 0,aD 0,aD 0,aD 0,aD 0,aD 0,aD 0,aD 0,aD 0,aD 0,aD 0,aD 0,aD 0,aD 0,aD 0,aD 0,aD 0,aD 0,aD 0,aD 0,aD 0,aD 0,aD 0,aD 0,aD 0,aD 0,aD 0,aD 0,aD 0,aD 0,aD 0,aD 0,aD 0,aD 0,aD 0,aD 0,aD 0,aD 0,aD 0,aD 0,aD 0,aD 0,aD 0,aD 0,aD 0,aD 0,aD 0,aD 0]
theorem zUr:il lQ=QN:=by kernel_rfl
def G2:Gl:=⟨6,false,yy⟩
def lj:Cx:=HX false Tryz.prog G2 400 357
theorem Hr:CxOk Tryz.prog lj:=Zn _ _ _ _ _
theorem C9:lj.G=G2:=rfl
theorem zPx:ay Tryz.prog lj 220 [] (.agg QN):=by
 have h:=zyh;rw[zUr]at h;exact h.tab (by rw[C9,Ec];rfl) (fun g cs h=>by rw[C9];rw[Ec]at h;exact h)
def SE (ca:Ca):Ca:=fun f args h nx=>match Nat.beq f 220 with
 |true=>match args with
  |[]=>.ok (.agg QN) h nx
  |_=>.fail
 |false=>ca f args h nx
theorem zMh {ca:Ca}(df:jn Tryz.prog lj ca):jn Tryz.prog lj (SE ca):=by
 intro f args h nx v g ny he;unfold SE at he;cases hf:Nat.beq f 220 with
 |false=>rw[hf]at he;exact df f args h nx v g ny he
 |true=>
  rw[hf]at he;have e1:=ad hf;subst e1;simp only at he;split at he
  ·cases he;exact zPx h nx
  ·cases he
def BX (c:Cx):CY:=ev c (fun ca=>SE (Ro 266 (KR 275 (Ku 315 ca)))) (fun ca ya=>BV c ca ya) 100000 60
def Iy (f:FuncId):Bool:=Nat.beq f 107 || Nat.beq f 109
def C6 (f:Nat)(args:List AV):CO:=
 qY (yJ false Tryz.prog) 400 fun tt=>qY (rj Tryz.prog) 357 fun ft=>Jm (.mk tt .nil ft G2 (Bv Tryz.prog)) (BX (.mk tt .nil ft G2 (Bv Tryz.prog))).ca (BX (.mk tt .nil ft G2 (Bv Tryz.prog))).ya (fun ca ya=>BV (.mk tt .nil ft G2 (Bv Tryz.prog)) ca ya) 100000 20 Iy f args .nil 6
theorem zO3 (f:Nat)(args:List AV):C6 f args=Jm lj (BX lj).ca (BX lj).ya (fun ca ya=>BV lj ca ya) 100000 20 Iy f args .nil 6:=by
 unfold C6;rw[yF];show qY (rj Tryz.prog) 357 _=_;rw[yF];rfl
theorem Sq {b:Bool}{P:Program}{G:Gl}{nt nf:Nat}{f:FuncId}{fn:Func}(hf:f<nf)(h:rj P f=some fn):(HX b P G nt nf).ft.get f=some fn:=by
 show (tab (rj P) nf).get f=_;rw[Kc _ _ _ hf];exact h
theorem zOa:lj.ft.get 107=some Tryz.f107:=Sq (by decide) (by kernel_rfl)
theorem zHz:lj.ft.get 109=some Tryz.f109:=Sq (by decide) (by kernel_rfl)
theorem zQd:lj.ft.get 266=some Tryz.f266:=Sq (by decide) (by kernel_rfl)
theorem KE:jn Tryz.prog lj (BX lj).ca∧pD Tryz.prog lj (BX lj).ya:=
 Qu Hr (fun _ df=>zMh (zR6 Hr zQd rfl (XT WQ (ZE W8 df)))) (fun _ _ h1 h2=>R8 mixed Hr h1 h2) 100000 60
theorem zHv (f:FuncId)(h:Iy f=true):Dm Tryz.prog f∧∃fd,lj.ft.get f=some fd:=by
 unfold Iy at h
 rcases Bool.or_eq_true _ _ ▸ h with h |h
 ·have:=ad h;subst this;exact⟨zTz,_,zOa⟩
 ·have:=ad h;subst this;exact⟨zPf,_,zHz⟩
theorem zO1 {f:Nat}{args:List AV}{v:AV}{g:Tr ABlk}{ny:Nat}(h:C6 f args=.ok v g ny):aN Tryz.prog lj f args .nil 6 (zb v g ny):=by
 rw[zO3]at h;exact zSb Hr KE.1 KE.2 (R8 mixed Hr KE.1 KE.2) 100000 20 zHv h
def GB (r:CO)(u:AV):Bool:=match r with
 |.ok v g _=>BD v u && ((g.get 0).isNone && ((g.get 1).isNone && ((g.get 2).isNone && ((g.get 3).isNone && ((g.get 4).isNone && (g.get 5).isNone)))))
 |_=>false
theorem zHj {r:CO}{u:AV}(h:GB r u=true):∃g ny,r=.ok u g ny∧∀k,k<6→g.get k=none:=by
 unfold GB at h;split at h
 ·rename_i v g ny;simp only[al,Option.isNone_iff_eq_none]at h;obtain⟨a1,a2,a3,a4,a5,a6,a7⟩:=h;refine⟨g,ny,by rw[Jr _ _ a1],fun k hk=>?_⟩
  match k,hk with
  |0,_=>exact a2
  |1,_=>exact a3
  |2,_=>exact a4
  |3,_=>exact a5
  |4,_=>exact a6
  |5,_=>exact a7
 ·cases h
theorem zRo {c:Cx}{f:FuncId}{l n:Nat}{h:Tr ABlk}{nx:Nat}{R:AV→Tr ABlk→Nat→Prop}(hn:n<256 ^ l)(hc:aN Tryz.prog c f [.str l n] h nx R):aN Tryz.prog c f [.bs (bE l n)] h nx R:=by
 intro σ w A ok hA;refine hc σ w A ok ?_;simp only[aC,av]at hA ⊢;obtain⟨V,L,e1,e2,e3⟩:=hA;exact⟨V,L,e1,⟨hn,e2⟩,e3⟩
def RM:List AV:=[.str 2 12656,.int .i64 2,.int .i64 2,.str 3 7889268,.int .i64 5,.int .i64 3,.str 3 6645601,.int .i64 5,.int .i64 17,.sl0,.sl0,.int .i64 1,.str 0 0,.int .i64 0,.sl0,.int .i64 2,.str 0 0,.int .i64 0,.sl0,.int .i64 2,.str 0 0,.int .i64 0,.sl0]
def RQ:List AV:=[.str 2 12656,.int .i64 2,.int .i64 2,.str 3 7889268,.int .i64 5,.int .i64 3,.str 3 6645601,.int .i64 6,.int .i64 18,.sl0,.sl0,.int .i64 1,.str 0 0,.int .i64 0,.sl0,.int .i64 2,.str 0 0,.int .i64 0,.sl0,.int .i64 2,.str 0 0,.int .i64 0,.sl0]
theorem zQj:GB (C6 53 [.str 36 89781595541612542812568825523659187207980448655586184664718868602066417287077645542241]) (.tup [.agg RM,.int .i64 0,.int .i64 0])=true:=by kernel_rfl
theorem zI9:GB (C6 54 [.str 56 264595181224963706763764876332338481802628273462540133092131193619448999099283750174640082424607421107054726622538880623048715957266551]) (.tup [.agg RQ,.int .i64 0,.int .i64 0])=true:=by kernel_rfl
theorem ay.of_nilT {P:Program}{c:Cx}(hG:∀g cs,c.G.tab g=some cs→∀(σ τ:Sg) V,(∀b C,σ.imm b=some C→τ.imm b=some C)→σ.opq=τ.opq→av σ (.ip cs) V→av τ (.ip cs) V){fid:FuncId}{args:List AV}{u:AV}(ha:kT args=true)(hu:jy u=true)
  (hc:aN P c fid args .nil c.G.n fun v g _=>aA c.G.n .nil g∧Fz g c.G.n v u):ay P c fid args u:=by
 intro h nx σ w A hk hA
 let σ0:Sg:={ blk:=fun i=>if i<c.G.n then some i else none,cap:=σ.cap,opq:=σ.opq,imm:=σ.imm }
 have fV:Ok c.G σ0 .nil c.G.n w:=by
  refine⟨fun g hg=>if_pos hg,ae _,fun i hi=>if_neg (by omega),(fun i j b B B' h1=>by cases h1),(fun i B h1=>by cases h1),(fun b C hb=>⟨(hk.imm b C hb).1,(fun i B h1=>by cases h1)⟩),fun g cs hg=>?_⟩;exact hG g cs hg σ σ0 _ (fun _ _ e=>e) rfl (hk.gl g cs hg)
 refine(hc σ0 w A fV (aC.nf (σ:=σ) (τ:=σ0) (fun _ _ e=>e) args A ha hA)).mono fun V x q=>?_;obtain⟨τ,v,g,ny,q1,q2,q3,q4⟩:=q;have p:=Post.frz fV q2 q3;have hV:=q4.rel q2.ok V q1
 let τ':Sg:={ blk:=σ.blk,cap:=σ.cap,opq:=σ.opq,imm:=(τ.frz x g c.G.n).imm }
 have hle:σ.Le τ':=⟨fun _ _ e=>⟨e,rfl⟩,rfl,fun b C hb=>p.le.imm b C hb⟩;have mH:∀b,b<w.heap.size→x.heap[b]?=w.heap[b]?:=fun b hb=>p.fr.keep b hb fun i B hi=>by cases hi
 refine⟨τ',u,h,nx,av.nf (σ:=τ.frz x g c.G.n) (τ:=τ') (fun _ _ e=>e) u V hu hV,⟨⟨hk.glob,hk.le,hk.fresh,hk.inj,fun i B h1=>?_,fun b C hb=>⟨(p.ok.imm b C hb).1,fun i B h1 e=>?_⟩,fun i cs hi=>(hk.gl i cs hi).mono hle⟩,hle,⟨p.fr.os,p.fr.tape,p.fr.output,p.fr.size,fun b hb _=>mH b hb,fun i B b h1 h2=>.inr ⟨i,B,h1,h2⟩,fun b C hb=>?_⟩,ae _⟩,rfl,rfl,rfl⟩
 ·obtain⟨b,o,r1,r2,r3⟩:=hk.blk i B h1;exact⟨b,o,r1,by rw[mH b (Bq r2)];exact r2,r3.mono hle r1⟩
 ·rcases p.fr.imm b C hb with h2 |h2 |⟨j,B',hj,_⟩
  ·exact(hk.imm b C h2).2 i B h1 e
  ·have:=hk.blt h1 e;omega
  ·cases hj
 ·rcases p.fr.imm b C hb with h2 |h2 |⟨j,B',hj,_⟩
  ·exact .inl h2
  ·exact .inr (.inl h2)
  ·cases hj
theorem zNu:kT wN=true:=by kernel_rfl
theorem zPd (g:Nat)(cs:List AV)(h:yy g=some cs)(σ τ:Sg)(V:Value)(h1:∀b C,σ.imm b=some C→τ.imm b=some C)(h2:σ.opq=τ.opq)(hr:av σ (.ip cs) V):av τ (.ip cs) V:=by
 unfold yy at h;split at h
 ·cases h;exact av.nf h1 _ V (by simpa only[jy]using zNu) hr
 ·cases h;simp only[av,aC]at hr ⊢;obtain⟨b,o,C,L,e1,e2,⟨U,L',e3,⟨e4,e5⟩,e6⟩,e7⟩:=hr;exact⟨b,o,C,L,e1,h1 _ _ e2,⟨U,L',e3,⟨by rw[e4,h2],e5⟩,e6⟩,e7⟩
 ·cases h
theorem Yx {f l n:Nat}{s:ByteArray}{u:List AV}(hs:bE l n=s)(hn:n<256 ^ l)(hr:GB (C6 f [.str l n]) (.tup [.agg u,.int .i64 0,.int .i64 0])=true)(hu:kT u=true)(hp:bC u=true):ay Tryz.prog cx f [.bs s] (.tup [.agg u,.int .i64 0,.int .i64 0]):=by
 obtain⟨g,ny,hr,hg⟩:=zHj hr;have hc:=zO1 hr;have h1:ay Tryz.prog lj f [.str l n] (.tup [.agg u,.int .i64 0,.int .i64 0]):=by
  refine ay.of_nilT (fun g cs h=>zPd g cs (by rw[C9]at h;exact h)) rfl (by simp only[jy,kT,hu]) ?_;rw[C9];refine aN.mono hc ?_
  rintro v' g' oy ⟨rfl,rfl,rfl⟩
  exact⟨fun k hk=>hg k hk,Fz.same _ (by simp[plain,bC,hp])⟩
 have h2:=h1.tab (c':=cx) (by rw[C9,Ec];rfl) (fun g cs h=>by rw[Ec];rw[C9]at h;exact h);intro h nx;rw[← hs];exact zRo hn (h2 h nx)
def Gw:ByteArray:=⟨#[97,99,116,32,112,49,58,32,97,110,115,119,101,114,32,116,97,120,32,105,115,32,53,32,105,102,32,97,103,101,32,62,32,49,55,46]⟩
def GX:ByteArray:=⟨#[119,104,101,114,101,32,123,32,97,103,101,32,49,56,32,108,101,97,115,116,32,125,32,113,117,101,115,116,105,111,110,32,116,97,120,32,103,105,118,101,115,32,53,32,91,115,116,97,116,117,116,101,32,112,49,93]⟩
theorem zNx:ay Tryz.prog cx 53 [.bs Gw] (.tup [.agg RM,.int .i64 0,.int .i64 0]):=Yx (by kernel_rfl) (of_decide_eq_true (by kernel_rfl)) zQj (by kernel_rfl) (by kernel_rfl)
theorem zUc:ay Tryz.prog cx 54 [.bs GX] (.tup [.agg RQ,.int .i64 0,.int .i64 0]):=Yx (by kernel_rfl) (of_decide_eq_true (by kernel_rfl)) zI9 (by kernel_rfl) (by kernel_rfl)
end
end Go.Ev
