/-
  (*list).Order: both places are compared, number by number.
-/
import Derived.Test.YtfemjcbhgfhbjaaSmall
import Derived.Test.YtfemjcbhgfhbjaaRegion
import Derived.Deep.DeepCutAuto
namespace Go.Proofs.Ytfemjcbhgfhbjaa
open Go.RowKit
def PlAt (w : World) (v : Value) (k : Kn) : Prop := ∃ p, v = .pointer (some ⟨p, 0, none⟩) ∧ Ints w p 0 k.pl
abbrev plv (k : Kn) : Array Value := #[.int .i64 k.d, .int .i64 k.o, .int .i64 k.n, .int .i64 k.i]
def NewPl (N : Nat) (w : World) (v : Value) : Prop := ∃ p, v = .pointer (some ⟨p, 0, none⟩) ∧ N ≤ p ∧ w.heap[p]? = some (.cells #[.int .i64 0, .int .i64 0, .int .i64 0, .int .i64 0] 79 (0, 0))
def V19 (a b : Kn) (N : Nat) : Nat → Value → World → Prop
  | 0, v, _ => v = .agg a.cs
  | 1, v, _ => v = .agg (plv a)
  | 2, v, _ => v = .agg b.cs
  | 3, v, _ => v = .agg (plv b)
  | _, v, w => NewPl N w v
theorem NewPl.ext {N : Nat} {w w' : World} {v : Value} (h : NewPl N w v) (hb : Ext w w') : NewPl N w' v := by
  obtain ⟨p, rfl, hN, hp⟩ := h
  exact ⟨p, rfl, hN, by rw [hb.block p (Array.getElem?_eq_some_iff.1 hp).1]; exact hp⟩
set_option maxHeartbeats 1000000 in
theorem order_c (a b : Kn) (l : Option Addr) (w : World) :
    Calls Try.prog 19 #[.pointer l, .agg a.cs, .agg b.cs] w fun e w' => e = .returned (.int .i64 (cmpL a.pl b.pl)) ∧ Ext w w' := by
  go_enter Try.func19, Try.ntmps19
  go_wp2_with fail
  have hka : KAt ((w.alloc (Obj.cells a.cs 56)).alloc (Obj.cells b.cs 56)) w.heap.size 0 a := (KAt.new w a 56).alloc _
  have hkb : KAt ((w.alloc (Obj.cells a.cs 56)).alloc (Obj.cells b.cs 56)) (w.heap.size + 1) 0 b := by
    have := KAt.new (w.alloc (Obj.cells a.cs 56)) b 56
    simpa using this
  have hext : Ext w ((w.alloc (Obj.cells a.cs 56)).alloc (Obj.cells b.cs 56)) := (Ext.new _ _).alloc _
  have HE := Lib.hid hext
  clear hext
  go_cut [7, 8] (fun x y w' => PlAt w' x a ∧ PlAt w' y b ∧ Ext w w')
  case first =>
    generalize hB : w.heap.size = B at *
    generalize hw1 : (w.alloc (Obj.cells a.cs 56)).alloc (Obj.cells b.cs 56) = w1 at *
    have HW := Lib.hid hB
    clear hB hw1
    refine wp_region_ext (by kernel_rfl) 6 (by decide) (by kernel_rfl) (by kernel_rfl) (by kernel_rfl) (by kernel_rfl) (by kernel_rfl) (V19 a b w1.heap.size) (fun i => decide (4 ≤ i)) ?_ ?_ ?_ ?_
    · intro i hi hfr v wc p hv hb
      have h4 : 4 ≤ i := of_decide_eq_true hfr
      have hv' : NewPl w1.heap.size wc v := by
        rcases i with _ | _ | _ | _ | i
        · omega
        · omega
        · omega
        · omega
        · exact hv
      obtain ⟨q, rfl, _, hq⟩ := hv'
      simp only [blk, Option.some.injEq] at hb
      subst hb
      exact (Array.getElem?_eq_some_iff.1 hq).1
    · intro i hi v wc wd hv hb
      rcases i with _ | _ | _ | _ | i
      · exact hv
      · exact hv
      · exact hv
      · exact hv
      · exact NewPl.ext hv hb
    · intro i hi f wc hf hx hp K hK
      have ha := (hka.ext hx)
      have hb := (hkb.ext hx)
      have e4 : f.eval (.tmp 4) = .pointer (some ⟨B, 0, none⟩) := hf.eval 4 (by kernel_rfl)
      have e5 : f.eval (.tmp 5) = .pointer (some ⟨B + 1, 0, none⟩) := hf.eval 5 (by kernel_rfl)
      obtain ⟨d, hu, hd⟩ := row56
      rcases i with _ | _ | _ | _ | _ | _ | i
      · refine wpOp_plain rfl rfl (wp_load_mid 56 (.tmp 4) rfl B 0 e4 a.cl d ha hu hd (by rw [info56, a.len]) ?_)
        exact hK _ _ _ (Ext.refl _) rfl (fun h => absurd h (by decide)) rfl
      · have e9 : f.eval (.tmp 9) = .agg a.cs := hp 0 (by decide) (by kernel_rfl)
        refine wpOp_plain rfl rfl (wp_call rfl (args := #[.agg a.cs]) (by simp [e9]) (by kernel_rfl) (of_c a _) ?_)
        rintro e w' ⟨rfl, hw⟩
        exact ⟨_, rfl, hK _ _ _ hw rfl (fun h => absurd h (by decide)) rfl⟩
      · refine wpOp_plain rfl rfl (wp_load_mid 56 (.tmp 5) rfl (B + 1) 0 e5 b.cl d hb hu hd (by rw [info56, b.len]) ?_)
        exact hK _ _ _ (Ext.refl _) rfl (fun h => absurd h (by decide)) rfl
      · have e11 : f.eval (.tmp 11) = .agg b.cs := hp 2 (by decide) (by kernel_rfl)
        refine wpOp_plain rfl rfl (wp_call rfl (args := #[.agg b.cs]) (by simp [e11]) (by kernel_rfl) (of_c b _) ?_)
        rintro e w' ⟨rfl, hw⟩
        exact ⟨_, rfl, hK _ _ _ hw rfl (fun h => absurd h (by decide)) rfl⟩
      · refine wpOp_plain rfl rfl ?_
        go_simp
        exact hK _ _ _ (Ext.new _ _) ⟨_, rfl, hx.size, heap_alloc_last _ _⟩ (fun _ p hp => by simp only [blk, Option.some.injEq] at hp; omega) rfl
      · refine wpOp_plain rfl rfl ?_
        go_simp
        exact hK _ _ _ (Ext.new _ _) ⟨_, rfl, hx.size, heap_alloc_last _ _⟩ (fun _ p hp => by simp only [blk, Option.some.injEq] at hp; omega) rfl
      · omega
    · intro f wc hf hx hv hA
      have e10 : f.eval (.tmp 10) = .agg (plv a) := hv 1 (by decide)
      have e12 : f.eval (.tmp 12) = .agg (plv b) := hv 3 (by decide)
      obtain ⟨p, e7, hpN, hp⟩ : NewPl w1.heap.size wc (f.eval (.tmp 7)) := hv 4 (by decide)
      obtain ⟨q, e8, hqN, hq⟩ : NewPl w1.heap.size wc (f.eval (.tmp 8)) := hv 5 (by decide)
      have hpq : p ≠ q := fun e => hA 4 5 (by decide) (by decide) (by decide) rfl rfl rfl rfl q (by show blk (f.eval (.tmp 7)) = _; rw [e7, e]; rfl) (by show blk (f.eval (.tmp 8)) = _; rw [e8]; rfl)
      have hl := hf.lit
      obtain ⟨x9, h9⟩ : ∃ x, f.tmps.getD 9 undef = x := ⟨_, rfl⟩
      obtain ⟨x11, h11⟩ : ∃ x, f.tmps.getD 11 undef = x := ⟨_, rfl⟩
      simp only [Act.eval] at e10 e12 e7 e8
      have hf' : f = ⟨#[.pointer l, .agg a.cs, .agg b.cs, undef, .pointer (some ⟨B, 0, none⟩), .pointer (some ⟨B + 1, 0, none⟩), .int .i64 0,
        .pointer (some ⟨p, 0, none⟩), .pointer (some ⟨q, 0, none⟩), x9, .agg (plv a), x11, .agg (plv b), undef, undef, undef], []⟩ := by
        rw [← e10, ← e12, ← e7, ← e8, ← h9, ← h11]
        exact hl
      clear hl h9 h11 e10 e12 e7 e8 hv hA hf
      subst hf'
      refine wpList_store_row rfl 79 (.tmp 7) (.tmp 10) rfl p (plv a) rfl rfl 79 _ hp (by kernel_rfl) rfl (by simp [Value.oneCell']) ?_
      refine wpList_store_row rfl 79 (.tmp 8) (.tmp 12) rfl q (plv b) rfl rfl 79 _ ((setRow_other _ _ _ _ hpq.symm).trans hq) (by kernel_rfl) rfl (by simp [Value.oneCell']) ?_
      have hxf : Ext w ((wc.setRow p (plv a)).setRow q (plv b)) := HE.out.trans ((hx.setRow hpN _).setRow hqN _)
      have hpl : Ints ((wc.setRow p (plv a)).setRow q (plv b)) p 0 a.pl := pl_new _ _ p a 79 (0, 0) (setRow_heap wc p _ _ _ _ hp) (setRow_other _ _ _ _ hpq)
      have hql : Ints ((wc.setRow p (plv a)).setRow q (plv b)) q 0 b.pl := pl_new _ _ q b 79 (0, 0) (setRow_heap _ q _ _ _ _ ((setRow_other _ _ _ _ hpq.symm).trans hq)) rfl
      refine wpList_nil ?_
      go_wp2_with fail
      go_meet
      case rel => exact ⟨⟨p, rfl, hpl⟩, ⟨q, rfl, hql⟩, hxf⟩
  case rest =>
    obtain ⟨⟨p, rfl, hpl⟩, ⟨q, rfl, hql⟩, hxf⟩ := hcut
    go_wp2_with fail
    go_quiet ((go_at_call 26; exact quiet_same (compare_c p 0 4 q 0 4 a.pl b.pl _ rfl (by simp [Kn.pl]) (by exact hpl) (by exact hql))))
    go_wp2_with fail
    go_ret
    exact ⟨rfl, hxf.drewN _⟩
end Go.Proofs.Ytfemjcbhgfhbjaa
