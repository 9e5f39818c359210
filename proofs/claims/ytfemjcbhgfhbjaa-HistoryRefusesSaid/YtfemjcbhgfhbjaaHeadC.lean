/-
  head returns true.
-/
import Derived.Test.YtfemjcbhgfhbjaaHead
import Derived.Deep.DeepCutAuto
namespace Go.Proofs.Ytfemjcbhgfhbjaa
open Go.RowKit

/-- The act k lies in a block of its own. -/
def KBlk (w : World) (v : Value) (k : Kn) : Prop := ∃ b, v = .pointer (some ⟨b, 0, none⟩) ∧ w.heap[b]? = some (.cells k.cs 56 (0, 0))
theorem setRow_alloc_old (w : World) (x : Obj) (b : Nat) (cs : Array Value) (h : b < w.heap.size) : (w.alloc x).setRow b cs = (w.setRow b cs).alloc x := by
  simp only [World.setRow, World.alloc]
  congr 1
  apply Array.ext_getElem?
  intro i
  simp only [Array.getElem?_push, Array.getElem?_modify, Array.size_modify]
  by_cases e : i = w.heap.size
  · subst e
    simp [show ¬ b = w.heap.size from by omega]
  · simp [e]
theorem run_storeK_row (w : World) (b : Nat) (old : Array Value) (k : Kn) (hg : w.heap[b]? = some (.cells old 56 (0, 0))) (hc : old.size = 49) :
    (storeK (.pointer (some ⟨b, 0, none⟩)) (.agg k.cs)).run Try.prog w = .ok () (w.setRow b k.cs) := by
  unfold storeK
  simp only [Instr.storeAt, Instr.sureAddr, Sem.run_bind, Sem.run_pure, Result.andThen_ok]
  exact run_storeVar_row w b 56 56 old k.cs hg (by rw [info56, k.size]) (by rw [hc, k.size]) k.one
@[go_sem] theorem run_storeK_1 (w : World) (c : Array Value) (x : Obj) (k : Kn) (n : Nat) (hn : n = w.heap.size) (h : (c.size == 49) = true) :
    (storeK (.pointer (some ⟨n, 0, none⟩)) (.agg k.cs)).run Try.prog ((w.alloc (.cells c 56)).alloc x) = .ok () ((w.alloc (.cells k.cs 56)).alloc x) := by
  subst hn
  rw [run_storeK_row _ _ c k (by rw [Below.heap_alloc _ _ _ (by simp)]; exact heap_alloc_last w _) (by simpa using h), setRow_alloc_old _ _ _ _ (by simp), World.setRow_alloc_new]
@[go_sem] theorem run_storeK_2 (w : World) (c : Array Value) (x y : Obj) (k : Kn) (n : Nat) (hn : n = w.heap.size) (h : (c.size == 49) = true) :
    (storeK (.pointer (some ⟨n, 0, none⟩)) (.agg k.cs)).run Try.prog (((w.alloc (.cells c 56)).alloc x).alloc y) = .ok () (((w.alloc (.cells k.cs 56)).alloc x).alloc y) := by
  subst hn
  rw [run_storeK_row _ _ c k (by rw [Below.heap_alloc _ _ _ (by simp; omega), Below.heap_alloc _ _ _ (by simp)]; exact heap_alloc_last w _) (by simpa using h), setRow_alloc_old _ _ _ _ (by simp; omega), setRow_alloc_old _ _ _ _ (by simp), World.setRow_alloc_new]
@[go_sem] theorem run_storeK_3 (w : World) (c : Array Value) (x y z : Obj) (k : Kn) (n : Nat) (hn : n = w.heap.size) (h : (c.size == 49) = true) :
    (storeK (.pointer (some ⟨n, 0, none⟩)) (.agg k.cs)).run Try.prog ((((w.alloc (.cells c 56)).alloc x).alloc y).alloc z) = .ok () ((((w.alloc (.cells k.cs 56)).alloc x).alloc y).alloc z) := by
  subst hn
  rw [run_storeK_row _ _ c k (by rw [Below.heap_alloc _ _ _ (by simp; omega), Below.heap_alloc _ _ _ (by simp; omega), Below.heap_alloc _ _ _ (by simp)]; exact heap_alloc_last w _) (by simpa using h), setRow_alloc_old _ _ _ _ (by simp; omega), setRow_alloc_old _ _ _ _ (by simp; omega), setRow_alloc_old _ _ _ _ (by simp), World.setRow_alloc_new]
@[go_sem] theorem run_storeK_0 (w : World) (c : Array Value) (k : Kn) (n : Nat) (hn : n = w.heap.size) (h : (c.size == 49) = true) :
    (storeK (.pointer (some ⟨n, 0, none⟩)) (.agg k.cs)).run Try.prog (w.alloc (.cells c 56)) = .ok () (w.alloc (.cells k.cs 56)) := by
  subst hn
  exact run_storeK_new w c k h

/-- What head has at hand: the history, and its four acts. -/
structure HSt (w0 w : World) (hb b2 b3 b4 b5 : Nat) (s : St) : Prop where
  hist : Hist w w0.heap.size hb s.1 s.2
  a : w.heap[b2]? = some (.cells kA.cs 56 (0, 0))
  b : w.heap[b3]? = some (.cells kB.cs 56 (0, 0))
  c : w.heap[b4]? = some (.cells kC.cs 56 (0, 0))
  d : w.heap[b5]? = some (.cells kD.cs 56 (0, 0))
  ext : Ext w0 w
theorem HSt.step {w0 w w' : World} {hb b2 b3 b4 b5 : Nat} {s s' : St} (h : HSt w0 w hb b2 b3 b4 b5 s) (h1 : Hist w' w0.heap.size hb s'.1 s'.2) (h2 : Below w0.heap.size w w') (h3 : TyKept w w') : HSt w0 w' hb b2 b3 b4 b5 s' :=
  ⟨h1, (h3 _ _ _ _ h.a (by decide) (by decide)).trans h.a, (h3 _ _ _ _ h.b (by decide) (by decide)).trans h.b, (h3 _ _ _ _ h.c (by decide) (by decide)).trans h.c, (h3 _ _ _ _ h.d (by decide) (by decide)).trans h.d, Below.trans h.ext h2⟩
theorem HSt.more {w0 w w' : World} {hb b2 b3 b4 b5 : Nat} {s : St} (h : HSt w0 w hb b2 b3 b4 b5 s) (hx : Ext w w') : HSt w0 w' hb b2 b3 b4 b5 s :=
  h.step (h.hist.ext hx) (hx.mono h.ext.size) (TyKept.of_ext hx)
theorem HSt.facts {w0 w : World} {hb b2 b3 b4 b5 : Nat} {s : St} (h : HSt w0 w hb b2 b3 b4 b5 s) :
    HasK w b2 0 ∧ HasK w b3 0 ∧ HasK w b4 0 ∧ HasK w b5 0 ∧ kAt w b2 0 = kA.cs ∧ kAt w b3 0 = kB.cs ∧ kAt w b4 0 = kC.cs ∧ kAt w b5 0 = kD.cs :=
  ⟨(KAt.of_block h.a).has, (KAt.of_block h.b).has, (KAt.of_block h.c).has, (KAt.of_block h.d).has, (KAt.of_block h.a).eq, (KAt.of_block h.b).eq, (KAt.of_block h.c).eq, (KAt.of_block h.d).eq⟩
theorem add_h {w0 w : World} {hb b2 b3 b4 b5 : Nat} {s s' : St} {err : Int} {k : Kn} (h : HSt w0 w hb b2 b3 b4 b5 s) (hi : Inv s.1 s.2) (hl : s.1.length ≤ 3000) (hs : stepK s k = (s', err)) :
    Calls Try.prog 16 #[.pointer (some ⟨hb, 0, none⟩), .agg k.cs] w fun e w' => e = .returned (.int .i64 err) ∧ HSt w0 w' hb b2 b3 b4 b5 s' := by
  have := add_c k w0.heap.size hb s w h.hist hi hl
  rw [hs] at this
  exact this.mono fun e w' ⟨he, h1, h2, h3⟩ => ⟨he, h.step h1 h2 h3⟩

theorem S7 {w0 w : World} {hb b2 b3 b4 b5 : Nat} (h : HSt w0 w hb b2 b3 b4 b5 s4) :
    HasK w b2 0 ∧ HasK w b3 0 ∧ HasK w b4 0 ∧ kAt w b2 0 = kA.cs ∧ kAt w b3 0 = kB.cs ∧ kAt w b4 0 = kC.cs ∧ HSt w0 w hb b2 b3 b4 b5 s4 :=
  ⟨h.facts.1, h.facts.2.1, h.facts.2.2.1, h.facts.2.2.2.2.1, h.facts.2.2.2.2.2.1, h.facts.2.2.2.2.2.2.1, h⟩
theorem S7h {w0 w : World} {hb b2 b3 b4 b5 : Nat} (h : HasK w b2 0 ∧ HasK w b3 0 ∧ HasK w b4 0 ∧ kAt w b2 0 = kA.cs ∧ kAt w b3 0 = kB.cs ∧ kAt w b4 0 = kC.cs ∧ HSt w0 w hb b2 b3 b4 b5 s4) : HSt w0 w hb b2 b3 b4 b5 s4 := h.2.2.2.2.2.2
theorem at_nil' (known : Int) (w : World) : Calls Try.prog 10 #[.pointer none, .int .i64 known] w fun e w' => e = .returned (.slice none 0 0) ∧ Ext w w' :=
  (at_nil known w).mono fun e w' ⟨he, hw⟩ => ⟨he, by rw [← hw]; exact Ext.refl _⟩
theorem KSl.new (w : World) (ks : List Kn) : KSl (w.alloc (.cells (flat ks).toArray 56)) (some ⟨w.heap.size, 0, none⟩) ks :=
  KSl.of_flat (heap_alloc_last w _) (by rw [← flat_len]; simp)
theorem at_h {w0 w : World} {hb b2 b3 b4 b5 : Nat} (known : Int) (l : List Kn) (hl : atK s4.1 known = l) (h : HSt w0 w hb b2 b3 b4 b5 s4) : Calls Try.prog 10 #[.pointer (some ⟨hb, 0, none⟩), .int .i64 known] w (AtPost l w) := by
  rw [← hl]
  exact at_c hb s4.1 known w h.hist.read (by decide)

set_option maxRecDepth 100000 in
set_option maxHeartbeats 4000000 in
theorem head_c (w : World) : Calls Try.prog 8 #[] w fun e w' => e = .returned (.bool true) ∧ Ext w w' := by
  go_enter Try.func8, Try.ntmps8
  go_upto_region 2 with (go_at_call 17; refine (new_c _).mono ?_; rintro e w1 ⟨hb, rfl, hh, hx⟩)
  have HH := Lib.hid hh
  have HX := Lib.hid hx
  clear hh hx
  go_cut [2, 3, 4, 5] (fun x2 x3 x4 x5 w' => KBlk w' x2 kA ∧ KBlk w' x3 kB ∧ KBlk w' x4 kC ∧ KBlk w' x5 kD ∧ Ext w1 w')
  case first =>
    have hc := Lib.hid (Ext.refl w1)
    go_wp2_with (go_at_call 18; refine (act_c _ _ _ _ _ _).mono ?_; rintro e w2 ⟨rfl, hx2⟩; have hc := Lib.hid (hc.out.trans hx2); clear hx2)
    go_meet
    case rel =>
      refine ⟨⟨_, rfl, ?_⟩, ⟨_, rfl, ?_⟩, ⟨_, rfl, ?_⟩, ⟨_, rfl, ?_⟩, (((hc.out.alloc _).alloc _).alloc _).alloc _⟩
      · rw [Below.heap_alloc _ _ _ (by simp only [World.size_alloc]; omega), Below.heap_alloc _ _ _ (by simp only [World.size_alloc]; omega), Below.heap_alloc _ _ _ (by simp)]
        exact heap_alloc_last w2 _
      · rw [Below.heap_alloc _ _ _ (by simp only [World.size_alloc]; omega), Below.heap_alloc _ _ _ (by simp)]
        have := heap_alloc_last (w2.alloc (.cells kA.cs 56)) (.cells kB.cs 56)
        simp only [World.size_alloc] at this
        exact this
      · rw [Below.heap_alloc _ _ _ (by simp)]
        have := heap_alloc_last ((w2.alloc (.cells kA.cs 56)).alloc (.cells kB.cs 56)) (.cells kC.cs 56)
        simp only [World.size_alloc] at this
        exact this
      · have := heap_alloc_last (((w2.alloc (.cells kA.cs 56)).alloc (.cells kB.cs 56)).alloc (.cells kC.cs 56)) (.cells kD.cs 56)
        simp only [World.size_alloc] at this
        exact this
  case rest =>
    obtain ⟨⟨b2, rfl, h2⟩, ⟨b3, rfl, h3⟩, ⟨b4, rfl, h4⟩, ⟨b5, rfl, h5⟩, hxc⟩ := hcut
    have hst := Lib.hid (show HSt w wc hb b2 b3 b4 b5 s0 from ⟨HH.out.ext hxc, h2, h3, h4, h5, HX.out.trans hxc⟩)
    clear h2 h3 h4 h5 hxc HH HX
    obtain ⟨f1, f2, f3, f4, f5, f6, f7, f8⟩ := hst.out.facts
    go_upto_region 4 with (first
      | (go_at_call_of 16 (Value.agg kA.cs); refine (add_h hst.out inv0 (by decide) st1).mono ?_; rintro e wa ⟨rfl, hs⟩; clear f1 f2 f3 f4 f5 f6 f7 f8; obtain ⟨f1, f2, f3, f4, f5, f6, f7, f8⟩ := hs.facts; have hst1 := Lib.hid hs; clear hs)
      | (go_at_call_of 16 (Value.agg kB.cs); refine (add_h hst1.out inv1 (by decide) st2).mono ?_; rintro e wb ⟨rfl, hs⟩; clear f1 f2 f3 f4 f5 f6 f7 f8; obtain ⟨f1, f2, f3, f4, f5, f6, f7, f8⟩ := hs.facts; have hst2 := Lib.hid hs; clear hs)
      | (go_at_call_of 16 (Value.agg kC.cs); refine (add_h hst2.out inv2 (by decide) st3).mono ?_; rintro e wx ⟨rfl, hs⟩; clear f1 f2 f3 f4 f5 f6 f7 f8; obtain ⟨f1, f2, f3, f4, f5, f6, f7, f8⟩ := hs.facts; have hst3 := Lib.hid hs; clear hs)
      | (go_at_call_of 16 (Value.agg kD.cs); refine (add_h hst3.out inv3 (by decide) st4).mono ?_; rintro e wd ⟨rfl, hs⟩; clear f1 f2 f3 f4 f5 f6 f7 f8; have hst4 := Lib.hid hs; clear hs)
      | (go_at_call_of 16 (Value.agg (actK 6 0 1 0 { data := #[101] }).cs); refine (add_h (k := actK 6 0 1 0 { data := #[101] }) hst4.out inv4 (by decide) st5).mono ?_; rintro e we ⟨rfl, hs⟩; have hst4 := Lib.hid hs; clear hs)
      | (go_at_call_of 16 (Value.agg (actK 6 8 1 0 { data := #[101] }).cs); refine (add_h (k := actK 6 8 1 0 { data := #[101] }) hst4.out inv4 (by decide) st6).mono ?_; rintro e we ⟨rfl, hs⟩; have hst4 := Lib.hid hs; clear hs)
      | (go_at_call_of 18 (Value.int .i64 0); refine (act_c _ _ _ _ _ _).mono ?_; rintro e we ⟨rfl, hx2⟩; have hst4 := Lib.hid (hst4.out.more hx2); clear hx2))
    have hsC : Hid (∀ (w' : World), HSt w w' hb b2 b3 b4 b5 s4 → Calls Try.prog 14 #[.pointer (some ⟨hb, 0, none⟩), .string { data := #[99] }] w' fun e w'' => e = .returned (.tuple #[.int .i64 5, .bool true]) ∧ HSt w w'' hb b2 b3 b4 b5 s4) := fun w' h =>
      (since_c hb s4.1 bC w' h.hist.read (by decide)).mono fun e w'' ⟨he, hx⟩ => ⟨by rw [he, atMax, sinceC], h.more hx⟩
    have hsE : Hid (∀ (w' : World), HSt w w' hb b2 b3 b4 b5 s4 → Calls Try.prog 14 #[.pointer (some ⟨hb, 0, none⟩), .string { data := #[101] }] w' fun e w'' => e = .returned (.tuple #[.int .i64 0, .bool false]) ∧ HSt w w'' hb b2 b3 b4 b5 s4) := fun w' h =>
      (since_c hb s4.1 bE w' h.hist.read (by decide)).mono fun e w'' ⟨he, hx⟩ => ⟨by rw [he, atMax, sinceE], h.more hx⟩
    have hst5 := hst4
    clear hst hst1 hst2 hst3 hst4
    go_wp2_with (first
      | (go_at_call_of 14 (Value.string { data := #[99] }); refine (hsC.out _ hst5.out).mono ?_; rintro e wf ⟨rfl, hs⟩; have hst5 := Lib.hid hs; clear hs)
      | (go_at_call_of 14 (Value.string { data := #[101] }); refine (hsE.out _ hst5.out).mono ?_; rintro e wf ⟨rfl, hs⟩; have hst5 := Lib.hid hs; clear hs))
    have s0' := S7 (hst5.out.more (Ext.drew (Ext.refl wf)))
    go_region_held3 (fun w' => HasK w' b2 0 ∧ HasK w' b3 0 ∧ HasK w' b4 0 ∧ kAt w' b2 0 = kA.cs ∧ kAt w' b3 0 = kB.cs ∧ kAt w' b4 0 = kC.cs ∧ HSt w w' hb b2 b3 b4 b5 s4)
      (first
        | exact s0'
        | exact S7 ((S7h (by assumption)).more (by assumption))
        | exact S7 ((S7h (by assumption)).more (Ext.new _ _)))
      (first
        | (go_at_call_of 10 (Value.int .i64 5); refine (at_h 5 [kB, kA, kC] at5 (S7h (by assumption))).mono ?_; rintro e w7 ⟨ao, c, rfl, hk, hx, _⟩)
        | (go_at_call 13; refine (same_c _ _ [kB, kA, kC] [kB, kA, kC] _ _ _ ?_ ?_ (by decide)).mono ?_; (first | with_reducible exact hk | with_reducible exact hk.ext (Ext.new _ _)); (first | with_reducible exact KSl.new _ _ | with_reducible exact (KSl.new _ _).ext hx | with_reducible exact ((KSl.new _ _).ext (Ext.drew (Ext.refl _))).ext hx); rw [sameBAC]; rintro e w8 ⟨rfl, hx8⟩; clear hk hx)
        | (go_at_call_of 10 (Value.int .i64 2); refine (at_h 2 [] at2 (S7h (by assumption))).mono ?_; rintro e w9 ⟨ao2, c2, rfl, _, hx9, _⟩)
        | (go_at_call_of 10 (Value.int .i64 7); refine (at_h 7 [kB, kA, kC, kD] at7 (S7h (by assumption))).mono ?_; rintro e w10 ⟨ao7, c7, rfl, _, hx10, _⟩)
        | (go_at_call_of 11 (Value.agg kB.cs); refine (horder_c kA kB _ _).mono ?_; rw [ordAB]; rintro e w11 ⟨rfl, hx11⟩)
        | (go_at_call_of 11 (Value.agg kC.cs); refine (horder_c kA kC _ _).mono ?_; rw [ordAC]; rintro e w12 ⟨rfl, hx12⟩)
        | (go_at_call 16; refine (add_nil kA _).mono ?_; rintro e w13 ⟨rfl, hx13⟩)
        | (go_at_call_of 10 (Value.int .i64 9); refine (at_nil' 9 _).mono ?_; rintro e w14 ⟨rfl, hx14⟩))
    all_goals
      go_wp2_with fail
      go_ret
      refine ⟨rfl, ?_⟩
      exact (S7h (by assumption)).ext
end Go.Proofs.Ytfemjcbhgfhbjaa
