/-
  Add, where the act is taken.
-/
import Derived.Test.YtfemjcbhgfhbjaaAdd
import Derived.StillTailTactics
import Derived.Laws.EntriesVeiled
namespace Go.Proofs.Ytfemjcbhgfhbjaa
open Go.RowKit Go.WideMaps

/-- Blocks of other types than a history's own are as they were. -/
def TyKept (w w' : World) : Prop := ∀ (k : Nat) (c : Array Value) (t : TypeId) (fr : Nat × Nat), w.heap[k]? = some (.cells c t fr) → t ≠ 75 → t ≠ 76 → w'.heap[k]? = w.heap[k]?
theorem TyKept.of_ext {w w' : World} (h : Ext w w') : TyKept w w' := fun k _ _ _ hk _ _ => h.block k (block_lt hk)
theorem TyKept.trans {a b c : World} (h : TyKept a b) (k : TyKept b c) : TyKept a c := fun i x t fr hi h1 h2 => (k i x t fr ((h i x t fr hi h1 h2).trans hi) h1 h2).trans (h i x t fr hi h1 h2)

theorem insAt_map {α β : Type} (f : α → β) (l : List α) (i : Nat) (x : α) : (insAt l i x).map f = insAt (l.map f) i (f x) := by simp [insAt, List.map_take, List.map_drop]
theorem insAt_get {α : Type} (l : List α) (i : Nat) (x : α) (hi : i ≤ l.length) (j : Nat) : (insAt l i x)[j]? = if j < i then l[j]? else if j = i then some x else l[j - 1]? := by
  have l1 : (l.take i).length = i := by simp; omega
  unfold insAt
  rw [List.append_assoc]
  by_cases h1 : j < i
  · rw [List.getElem?_append_left (by omega), List.getElem?_take, if_pos h1, if_pos h1]
  · rw [List.getElem?_append_right (by omega), l1, if_neg h1]
    by_cases h2 : j = i
    · subst h2; simp
    · obtain ⟨d, rfl⟩ : ∃ d, j = i + 1 + d := ⟨j - (i + 1), by omega⟩
      rw [if_neg h2, show i + 1 + d - i = d + 1 by omega]
      simp only [List.cons_append, List.nil_append, List.getElem?_cons_succ, List.getElem?_drop]
      congr 1
      omega

theorem add_close {w w5 w6 w7 w9 w11 : World} {base hb mb q m : Nat} {ks : List Kn} {us : List (Int × Int × Int)} {k : Kn} {sv v' : Value} {ps : List Nat}
    (h1 : w.heap[hb]? = some (.cells #[sv, .map (some mb)] 75 (0, 0))) (h2 : base ≤ hb) (h3 : base ≤ mb) (h4 : MapAt w mb us) (h5 : w.ownsRow base 76 1 sv ks.length (ps.map ptr))
    (h6 : ∀ (i : Nat) (k : Kn), ks[i]? = some k → ∃ p : Nat, ps[i]? = some p ∧ w.heap[p]? = some (.cells k.cs 56 (0, 0)))
    (hmid : Mid w w5 k q) (hx6 : Ext w5 w6) (hg7 : w6.drew.grownBy w7 (some mb)) (hm7 : MapAt w7 mb (us ++ [k.bare])) (hx9 : Ext w7 w9)
    (hm : m ≤ ks.length) (hg11 : (w9.alloc (.cells #[ptr w.heap.size] 76)).grownBy w11 sv.ownBlock) (ho11 : w11.ownsRow base 76 1 v' (ks.length + 1) (insAt (ps.map ptr) m (ptr w.heap.size))) :
    Hist (w11.setCell ⟨hb, 0, none⟩ v') base hb (insAt ks m k) (us ++ [k.bare]) ∧ Below base w (w11.setCell ⟨hb, 0, none⟩ v') ∧ TyKept w (w11.setCell ⟨hb, 0, none⟩ v') := by
  have s5 := hmid.ext.size
  have s6 := hx6.size
  have s7 := hg7.size
  simp only [World.size_drew] at s7
  have s9 := hx9.size
  have s11 := hg11.size
  simp only [World.size_alloc] at s11
  have hmbw := h4.lt
  -- a block that was there in w6 and is none of the two
  have k56 : ∀ j, j < w5.heap.size → j ≠ mb → some j ≠ sv.ownBlock → w11.heap[j]? = w5.heap[j]? := by
    intro j hj hjm hjo
    rw [hg11.block j (by simp; omega) hjo, Below.heap_alloc _ _ _ (by omega), hx9.block j (by omega), hg7.block j (by simp; omega) (by simpa using hjm)]
    exact hx6.block j hj
  have kw : ∀ j, j < w.heap.size → j ≠ mb → some j ≠ sv.ownBlock → w11.heap[j]? = w.heap[j]? := fun j hj hjm hjo => (k56 j (by omega) hjm hjo).trans (hmid.ext.block j hj)
  have own_ty : ∀ j, sv.ownBlock = some j → ∃ cur, w.heap[j]? = some (.cells cur 76 (0, 0)) := by
    intro j hj
    rcases h5.2 with ⟨rfl, _⟩ | ⟨g, cap, cur, rfl, _, hg, _⟩
    · simp [Value.ownBlock] at hj
    · simp [Value.ownBlock] at hj
      subst hj
      exact ⟨cur, hg⟩
  obtain ⟨es, clock, hmb, _⟩ := h4
  have ne_mb : ∀ (j : Nat) (c : Array Value) (t : TypeId) (fr : Nat × Nat), w.heap[j]? = some (.cells c t fr) → j ≠ mb := by
    rintro j c t fr hj rfl
    rw [hmb] at hj
    cases hj
  have ne_own : ∀ (j : Nat) (c : Array Value) (t : TypeId) (fr : Nat × Nat), w.heap[j]? = some (.cells c t fr) → t ≠ 76 → some j ≠ sv.ownBlock := by
    intro j c t fr hj ht e
    obtain ⟨cur, hc⟩ := own_ty j e.symm
    rw [hc] at hj
    cases hj
    exact ht rfl
  have hb11 : w11.heap[hb]? = some (.cells #[sv, .map (some mb)] 75 (0, 0)) := (kw hb (block_lt h1) (ne_mb _ _ _ _ h1) (ne_own _ _ _ _ h1 (by decide))).trans h1
  have hset : ∀ j, j ≠ hb → (w11.setCell ⟨hb, 0, none⟩ v').heap[j]? = w11.heap[j]? := fun j hj => heap_setCell_other w11 ⟨hb, 0, none⟩ j v' hj
  have own_lt := h5.lt
  have own11 := ho11.lt
  refine ⟨⟨v', mb, insAt ps m w.heap.size, ?_, h2, h3, ?_, ?_, ?_⟩, ?_, ?_⟩
  · rw [heap_setCell_same w11 hb 0 _ 75 v' hb11]
    rfl
  · refine hm7.same ?_
    have hmh : mb ≠ hb := fun e => ne_mb _ _ _ _ h1 e.symm
    rw [hset mb hmh]
    have hmo : some mb ≠ sv.ownBlock := fun e => by
      obtain ⟨cur, hc⟩ := own_ty mb e.symm
      rw [hmb] at hc
      cases hc
    rw [hg11.block mb (by simp; omega) hmo, Below.heap_alloc _ _ _ (by omega), hx9.block mb (by omega)]
  · have hl : (insAt ks m k).length = ks.length + 1 := insAt_len _ _ _ hm
    rw [hl, insAt_map]
    refine ⟨ho11.1, ?_⟩
    rcases ho11.2 with hn | ⟨g, cap, cur, rfl, hbg, hg, r⟩
    · exact .inl hn
    · refine .inr ⟨g, cap, cur, rfl, hbg, ?_, r⟩
      rw [hset g (fun e => by subst e; rw [hb11] at hg; cases hg)]
      exact hg
  · intro i x hx
    have hps : ps.length = ks.length := by have := h5.1; simpa using this
    rw [insAt_get _ _ _ hm] at hx
    rw [insAt_get _ _ _ (by omega)]
    have old : ∀ i' : Nat, ks[i']? = some x → ∃ p : Nat, ps[i']? = some p ∧ (w11.setCell ⟨hb, 0, none⟩ v').heap[p]? = some (.cells x.cs 56 (0, 0)) := by
      intro i' hi'
      obtain ⟨p, hp, hc⟩ := h6 i' x hi'
      refine ⟨p, hp, ?_⟩
      rw [hset p (fun e => by subst e; rw [h1] at hc; cases hc), kw p (block_lt hc) (ne_mb _ _ _ _ hc) (ne_own _ _ _ _ hc (by decide))]
      exact hc
    by_cases c1 : i < m
    · rw [if_pos c1] at hx ⊢
      exact old i hx
    · rw [if_neg c1] at hx ⊢
      by_cases c2 : i = m
      · rw [if_pos c2] at hx ⊢
        cases hx
        refine ⟨_, rfl, ?_⟩
        have hbw := block_lt h1
        rw [hset _ (by omega), k56 _ (block_lt hmid.act) (by omega) (fun e => by have := (own_lt _ e.symm).2; omega)]
        exact hmid.act
      · rw [if_neg c2] at hx ⊢
        exact old (i - 1) hx
  · refine ⟨?_, ?_, ?_, ?_, ?_⟩
    · exact hg11.os.trans (hx9.os.trans (hg7.os.trans (hx6.os.trans hmid.ext.os)))
    · exact hg11.tape.trans (hx9.tape.trans (hg7.tape.trans (hx6.tape.trans hmid.ext.tape)))
    · exact hg11.output.trans (hx9.output.trans (hg7.output.trans (hx6.output.trans hmid.ext.output)))
    · simp; omega
    · intro j hj
      have hbw := block_lt h1
      rw [hset j (by omega)]
      exact kw j (by omega) (by omega) (fun e => by have := (own_lt j e.symm).1; omega)
  · intro j c t fr hj t1 t2
    rw [hset j (fun e => by subst e; rw [h1] at hj; cases hj; exact t1 rfl)]
    exact kw j (block_lt hj) (ne_mb _ _ _ _ hj) (ne_own _ _ _ _ hj t2)
theorem cell_map {w w' : World} {mb : Nat} {us : List (Int × Int × Int)} (hm : MapAt w mb us) (hg : w.grownBy w' (some mb)) {a : Addr} {v : Value} (h : w.cell? a = some v) : w'.cell? a = some v := by
  refine hg.cell h ?_
  intro e
  simp only [Option.some.injEq] at e
  obtain ⟨es, clock, hb, _⟩ := hm
  unfold World.cell? at h
  rw [e, hb] at h
  cases h
theorem KAt.map {w w' : World} {mb : Nat} {us : List (Int × Int × Int)} (hm : MapAt w mb us) (hg : w.grownBy w' (some mb)) {b o : Nat} {k : Kn} (h : KAt w b o k) : KAt w' b o k := fun j v hv => cell_map hm hg (h j v hv)
theorem PSl.map {w w' : World} {mb : Nat} {us : List (Int × Int × Int)} (hm : MapAt w mb us) (hg : w.grownBy w' (some mb)) {ao : Option Addr} {ks : List Kn} (h : PSl w ao ks) : PSl w' ao ks := by
  intro i k hk
  obtain ⟨g, p, e, hc, ha⟩ := h i k hk
  exact ⟨g, p, e, cell_map hm hg hc, ha.map hm hg⟩

theorem own_ext {w w' : World} {base : Nat} {sv : Value} {n : Nat} {xs : List Value} (h : w.ownsRow base 76 1 sv n xs) (hx : Ext w w') : w'.ownsRow base 76 1 sv n xs :=
  h.kept (row := none) ⟨hx.os, hx.tape, hx.output, hx.size, fun k hk _ => hx.block k hk⟩ (by cases hv : sv.ownBlock <;> simp)
theorem own_map {w w' : World} {mb : Nat} {us : List (Int × Int × Int)} (hm : MapAt w mb us) (hg : w.grownBy w' (some mb)) {base : Nat} {sv : Value} {n : Nat} {xs : List Value} (h : w.ownsRow base 76 1 sv n xs) : w'.ownsRow base 76 1 sv n xs := by
  refine h.kept hg ?_
  rcases h.2 with ⟨rfl, _⟩ | ⟨g, cap, cur, rfl, _, hb, _⟩
  · exact .inl rfl
  · right
    intro e
    simp only [Value.ownBlock, Option.some.injEq] at e
    obtain ⟨es, clock, hmb, _⟩ := hm
    rw [e, hmb] at hb
    cases hb
theorem own_form {w : World} {base n : Nat} {v : Value} {xs : List Value} (h : w.ownsRow base 76 1 v n xs) : ∃ ao cap, v = .slice ao n cap := by
  rcases h.2 with ⟨rfl, rfl⟩ | ⟨g, cap, cur, rfl, _⟩
  · exact ⟨none, 0, rfl⟩
  · exact ⟨_, cap, rfl⟩
theorem ptr_one (l : List Nat) : ∀ v ∈ l.map ptr, v.oneCell' = true := by
  intro v hv
  obtain ⟨p, _, rfl⟩ := List.mem_map.1 hv
  rfl

def AddOk (base hb : Nat) (ks : List Kn) (us : List (Int × Int × Int)) (w : World) (e : Ending) (w' : World) : Prop := e = .returned (.int .i64 0) ∧ Hist w' base hb ks us ∧ Below base w w' ∧ TyKept w w'

set_option maxRecDepth 100000 in
set_option maxHeartbeats 2000000 in
theorem add_ok (k : Kn) (base hb m : Nat) (ks : List Kn) (us : List (Int × Int × Int)) (w : World) (hh : Hist w base hb ks us) (hv : k.valid = true) (hu : ¬ k.bare ∈ us) (hlen : ks.length ≤ 3000) (hm : m ≤ ks.length)
    (hs : ∀ h x, ks[h]? = some x → (cmpL x.pl k.pl < 0 ↔ h < m)) :
    Calls Try.prog 16 #[.pointer (some ⟨hb, 0, none⟩), .agg k.cs] w (AddOk base hb (insAt ks m k) (us ++ [k.bare]) w) := by
  have hv' : validB k.d k.o k.n k.i = true := hv
  have hok := Lib.hid (bare_ok hv)
  clear hv
  obtain ⟨ao, cap, mv, hr1, hr2⟩ := hh.read
  obtain ⟨sv, mb, ps, h1, h2, h3, h4, h5, h6⟩ := hh
  obtain ⟨rfl, rfl⟩ : sv = .slice ao ks.length cap ∧ mv = .map (some mb) := by
    rw [h1] at hr1
    simp only [Option.some.injEq, Obj.cells.injEq, Array.mk.injEq, List.cons.injEq, and_true] at hr1
    exact ⟨hr1.1, hr1.2.symm⟩
  have H1 := Lib.hid h1
  have H4 := Lib.hid h4
  have H5 := Lib.hid h5
  have HP := Lib.hid hr2
  have HU := Lib.hid hu
  have HS := Lib.hid hs
  have HCL := Lib.hid (fun (w5 w6 w7 w9 w11 : World) (q : Nat) (v' : Value) => @add_close w w5 w6 w7 w9 w11 base hb mb q m ks us k _ v' ps h1 h2 h3 h4 h5 h6)
  have hbase : base ≤ w.heap.size := Nat.le_of_lt (Nat.lt_of_le_of_lt h2 (block_lt h1))
  clear h1 h2 h3 h4 h5 h6 hr1 hr2 hu hs
  go_enter Try.func16, Try.ntmps16
  go_wp2_with (first
    | (go_at_call 21; refine (of_c k _).mono ?_; rintro e w1 ⟨rfl, hy1⟩)
    | (go_at_call 22; refine (valid_c _ _ _ _ _).mono ?_; rintro e w5 ⟨rfl, hy5⟩; have hmid := Lib.hid (mid hy1 hy5); clear hy1 hy5))
  have hx := hmid.out.ext
  obtain ⟨b0, b1, b2, b3⟩ := row_cells hmid.out.bare
  have c1 : w5.cell? ⟨hb, 1, none⟩ = some (.map (some mb)) := by
    rw [World.cell?_of_block (w := w) (hx.block hb (block_lt H1.out)), cell_of_row w hb 1 _ _ _ H1.out]; rfl
  have c0 : w5.cell? ⟨hb, 0, none⟩ = some (.slice ao ks.length cap) := by
    rw [World.cell?_of_block (w := w) (hx.block hb (block_lt H1.out)), cell_of_row w hb 0 _ _ _ H1.out]; rfl
  have hlk : ∀ e : Mo, (look71 (.map (some mb)) (.agg #[.int .i64 0, .int .i64 k.o, .int .i64 k.n, .int .i64 k.i])).run Try.prog (more w5 e) = .ok (.bool false) (more w5 e) := fun e => by
    have := run_lookup71 ((H4.out.same (hx.block mb H4.out.lt)).same ((more_ext w5 e).block mb (by have := hx.size; have := H4.out.lt; omega))) hok.out
    rw [decide_eq_false HU.out] at this
    exact this
  have HX := Lib.hid hx
  clear hx
  refine wp_region_more (by kernel_rfl) (by kernel_rfl) ?_
  repeat (go_big_quiet_step (fail))
  refine wpQuiet_nil ?_
  rintro _ ⟨nq, rfl⟩
  have hx6 := Lib.hid (more_ext w5 nq)
  have d0 := cell_in_more b0 nq
  have d1 := cell_in_more b1 nq
  have d2 := cell_in_more b2 nq
  have d3 := cell_in_more b3 nq
  have d4 := cell_in_more c0 nq
  have d5 := cell_in_more c1 nq
  clear hlk b0 b1 b2 b3 c0 c1
  generalize more w5 nq = w6 at *
  go_wp2_with fail
  have hmap6 : MapAt w6.drew mb us := (H4.out.same (HX.out.block mb H4.out.lt)).same (hx6.out.block mb (by have := HX.out.size; have := H4.out.lt; omega))
  obtain ⟨w7, hup, hm7, hg7, hs7⟩ := run_update71 hmap6 hok.out HU.out
  have hup' : (upd71 (.map (some mb)) (.agg #[.int .i64 0, .int .i64 k.o, .int .i64 k.n, .int .i64 k.i]) (.bool true)).run Try.prog w6.drew = .ok () w7 := hup
  have HM7 := Lib.hid hm7
  have HG7 := Lib.hid hg7
  have HS7 := Lib.hid hs7
  have o7 := Lib.hid (own_map hmap6 hg7 (own_ext (own_ext H5.out HX.out) hx6.out.drew))
  have p7 := Lib.hid (PSl.map hmap6 hg7 ((HP.out.ext HX.out).ext hx6.out.drew))
  have k7 : KAt w7 w.heap.size 0 k := KAt.map hmap6 hg7 ((KAt.of_block hmid.out.act).ext hx6.out.drew)
  have k7a := k7.has
  have k7b := k7.eq
  have e0 : w7.cell? ⟨hb, 0, none⟩ = some (.slice ao ks.length cap) := cell_map hmap6 hg7 d4
  have hlt7 : hb < w7.heap.size := block_lt_of_cell e0
  have K7 := Lib.hid k7
  clear hup hm7 hg7 hs7 hmap6 d4 k7
  go_still_tail 6, (by kernel_rfl)
  change wpList _ _ _ _ _ w6.drew
  go_wp2_with fail
  have hx8 : Ext w7 (w7.alloc (.cells #[.func (.func 19) #[.pointer (some ⟨hb, 0, none⟩)] #[]] 57)) := Ext.new _ _
  have q8 : (w7.alloc (.cells #[.func (.func 19) #[.pointer (some ⟨hb, 0, none⟩)] #[]] 57)).cell? ⟨w7.heap.size, 0, none⟩ = some (.func (.func 19) #[.pointer (some ⟨hb, 0, none⟩)] #[]) := by simp
  have p8 := Lib.hid (p7.out.ext hx8)
  have k8 := (K7.out.ext hx8)
  have k8a := k8.has
  have k8b := k8.eq
  have e8 : (w7.alloc (.cells #[.func (.func 19) #[.pointer (some ⟨hb, 0, none⟩)] #[]] 57)).cell? ⟨hb, 0, none⟩ = some (.slice ao ks.length cap) := by rw [World.cell?_alloc_lt _ _ _ hlt7]; exact e0
  have HX8 := Lib.hid hx8
  clear hx8 k8 k7a k7b e0 hlt7 p7 K7
  generalize w7.alloc (.cells #[.func (.func 19) #[.pointer (some ⟨hb, 0, none⟩)] #[]] 57) = w8 at *
  refine wp_region_more (by kernel_rfl) (by kernel_rfl) ?_
  repeat (go_big_quiet_step ((go_at_call 23; exact quiet_ext (search_c ao cap w7.heap.size m (some ⟨hb, 0, none⟩) ks k _ (by omega) (p8.out.ext (more_ext _ _)) (cell_in_more q8 _) hm HS.out))))
  refine wpQuiet_nil ?_
  rintro _ ⟨nq9, rfl⟩
  have hx9 := Lib.hid (HX8.out.trans (more_ext w8 nq9))
  have e9 := cell_in_more e8 nq9
  clear e8 k8a k8b q8 HX8 p8
  generalize more w8 nq9 = w9 at *
  have o9 := Lib.hid (own_ext (own_ext o7.out hx9.out) (Ext.new w9 (.cells #[ptr w.heap.size] 76)))
  have hlt9 : hb < w9.heap.size := block_lt_of_cell e9
  have hins := Lib.hid (insert_c base ks.length m (.slice ao ks.length cap) (ps.map ptr) (ptr w.heap.size) w9.heap.size (w9.alloc (.cells #[ptr w.heap.size] 76)) o9.out hm (by omega)
    (by have := HX.out.size; have := hx6.out.size; have := HG7.out.size; have := hx9.out.size; simp at *; omega) (heap_alloc_last w9 _)
    (fun g hg => by
      have h1 := (H5.out.lt g hg).2
      have := HX.out.size; have := hx6.out.size; have := HG7.out.size; have := hx9.out.size; simp at *; omega) rfl (ptr_one ps))
  have hb11 : Hid (∀ w11 : World, (w9.alloc (.cells #[ptr w.heap.size] 76)).grownBy w11 (Value.slice ao ks.length cap).ownBlock → w11.heap[hb]? = some (.cells #[.slice ao ks.length cap, .map (some mb)] 75 (0, 0))) := by
    intro w11 hg11
    have hne : some hb ≠ (Value.slice ao ks.length cap).ownBlock := fun e => by
      rcases H5.out.2 with ⟨hn, _⟩ | ⟨g, cap', cur, hn, _, hgb, _⟩
      · rw [hn] at e; simp [Value.ownBlock] at e
      · rw [hn] at e
        simp only [Value.ownBlock, Option.some.injEq] at e
        rw [← e, H1.out] at hgb
        cases hgb
    have hmbne : hb ≠ mb := fun e => by
      obtain ⟨es, clock, hmb, _⟩ := H4.out
      rw [← e, H1.out] at hmb
      cases hmb
    have s1 := block_lt H1.out
    have s2 := HX.out.size
    have s3 := hx6.out.size
    rw [hg11.block hb (by simp; omega) hne, Below.heap_alloc _ _ _ hlt9, hx9.out.block hb (by have := HG7.out.size; simp at this; omega), HG7.out.block hb (by simp; omega) (by simpa using hmbne)]
    exact (hx6.out.block hb (by omega)).trans ((HX.out.block hb s1).trans H1.out)
  have hfin : Hid (∀ (w11 : World) (v' : Value), (w9.alloc (.cells #[ptr w.heap.size] 76)).grownBy w11 (Value.slice ao ks.length cap).ownBlock → w11.ownsRow base 76 1 v' (insAt (ps.map ptr) m (ptr w.heap.size)).length (insAt (ps.map ptr) m (ptr w.heap.size)) →
      AddOk base hb (insAt ks m k) (us ++ [k.bare]) w (.returned (.int .i64 0)) (w11.setCell ⟨hb, 0, none⟩ v')) := by
    intro w11 v' hg11 ho11
    have hpl : (ps.map ptr).length = ks.length := by have := H5.out.1; simpa using this
    rw [insAt_len _ _ _ (by omega), hpl] at ho11
    exact ⟨rfl, HCL.out w5 w6 w7 w9 w11 _ v' hmid.out hx6.out HG7.out HM7.out hx9.out hm hg11 ho11⟩
  clear o9 hx9 hlt9 o7 HM7 HG7 HS7 hx6 HX hmid HCL H1 H4 H5 HP HU HS hok
  go_wp2_with (go_at_call 25; refine hins.out.mono ?_; rintro e w11 ⟨v', rfl, ho11, hg11⟩; obtain ⟨ao', cap', rfl⟩ := own_form ho11; have hbk := hb11.out w11 hg11; have hc0 : w11.cell? ⟨hb, 0, none⟩ = some (.slice ao ks.length cap) := (by rw [cell_of_row w11 hb 0 _ _ _ hbk]; rfl); have hf0 : w11.frozen? ⟨hb, 0, none⟩ = false := frozen_of_row w11 hb 0 _ _ hbk; have HF := Lib.hid (hfin.out w11 _ hg11 ho11); clear ho11 hg11 hbk)
  go_ret
  exact HF.out
end Go.Proofs.Ytfemjcbhgfhbjaa
