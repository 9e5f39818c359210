/-
  Add.
-/
import Derived.Test.YtfemjcbhgfhbjaaMap
namespace Go.Proofs.Ytfemjcbhgfhbjaa
open Go.RowKit Go.WideMaps

def Kn.valid (k : Kn) : Bool := validB k.d k.o k.n k.i
def Kn.bare (k : Kn) : Int × Int × Int := (k.o, k.n, k.i)

set_option maxRecDepth 100000 in
set_option maxHeartbeats 1000000 in
theorem add_nil (k : Kn) (w : World) : Calls Try.prog 16 #[.pointer none, .agg k.cs] w fun e w' => e = .returned (.int .i64 1) ∧ Ext w w' := by
  have hx := Lib.hid (Ext.new w (.cells k.cs 56))
  go_enter Try.func16, Try.ntmps16
  go_wp2_with (go_at_call 21; refine (of_c k _).mono ?_; rintro e w' ⟨rfl, hy⟩; obtain ⟨ew, rfl⟩ := hy.more; clear hy)
  go_ret
  exact ⟨rfl, ((hx.out.trans (more_ext _ _)).alloc _).alloc _⟩

set_option maxRecDepth 100000 in
set_option maxHeartbeats 1000000 in
theorem add_bad (k : Kn) (hb : Nat) (w : World) (hv : k.valid = false) : Calls Try.prog 16 #[.pointer (some ⟨hb, 0, none⟩), .agg k.cs] w fun e w' => e = .returned (.int .i64 1) ∧ Ext w w' := by
  have hx := Lib.hid (Ext.new w (.cells k.cs 56))
  have hv' : validB k.d k.o k.n k.i = false := hv
  clear hv
  go_enter Try.func16, Try.ntmps16
  go_wp2_with (first
    | (go_at_call 21; refine (of_c k _).mono ?_; rintro e w' ⟨rfl, hy⟩; obtain ⟨ew, rfl⟩ := hy.more; clear hy)
    | (go_at_call 22; refine (valid_c _ _ _ _ _).mono ?_; rintro e w' ⟨rfl, hy⟩; obtain ⟨ew, rfl⟩ := hy.more; clear hy))
  go_ret
  exact ⟨rfl, (((hx.out.trans (more_ext _ _)).alloc _).alloc _).trans (more_ext _ _)⟩
/-! ### the state of a history -/
def ptr (p : Nat) : Value := .pointer (some ⟨p, 0, none⟩)
/-- Block hb is a history of the acts ks, made from block 'base' on; us: the places that are used. -/
def Hist (w : World) (base hb : Nat) (ks : List Kn) (us : List (Int × Int × Int)) : Prop :=
  ∃ (sv : Value) (mb : Nat) (ps : List Nat), w.heap[hb]? = some (.cells #[sv, .map (some mb)] 75 (0, 0)) ∧ base ≤ hb ∧ base ≤ mb ∧ MapAt w mb us ∧ w.ownsRow base 76 1 sv ks.length (ps.map ptr) ∧
    ∀ (i : Nat) (k : Kn), ks[i]? = some k → ∃ p : Nat, ps[i]? = some p ∧ w.heap[p]? = some (.cells k.cs 56 (0, 0))
theorem Hist.ext {w w' : World} {base hb : Nat} {ks : List Kn} {us : List (Int × Int × Int)} (h : Hist w base hb ks us) (hx : Ext w w') : Hist w' base hb ks us := by
  obtain ⟨sv, mb, ps, h1, h2, h3, h4, h5, h6⟩ := h
  refine ⟨sv, mb, ps, by rw [hx.block hb (block_lt h1)]; exact h1, h2, h3, h4.same (hx.block mb h4.lt), ?_, ?_⟩
  · exact h5.kept (row := none) ⟨hx.os, hx.tape, hx.output, hx.size, fun k hk _ => hx.block k hk⟩ (by cases hv : sv.ownBlock <;> simp)
  · intro i k hk
    obtain ⟨p, hp, hc⟩ := h6 i k hk
    exact ⟨p, hp, by rw [hx.block p (block_lt hc)]; exact hc⟩
theorem Hist.below {w w' : World} {base hb B : Nat} {ks : List Kn} {us : List (Int × Int × Int)} (h : Hist w base hb ks us) (hB : w.heap.size ≤ B) (hx : Below B w w') : Hist w' base hb ks us := h.ext (hx.mono hB)
theorem Hist.read {w : World} {base hb : Nat} {ks : List Kn} {us : List (Int × Int × Int)} (h : Hist w base hb ks us) : HistR w hb ks := by
  obtain ⟨sv, mb, ps, h1, h2, h3, h4, h5, h6⟩ := h
  rcases h5.2 with ⟨rfl, hn⟩ | ⟨g, cap, cur, rfl, hbg, hg, hnc, hcm, hcs, ht⟩
  · refine ⟨none, 0, .map (some mb), by rw [hn]; exact h1, ?_⟩
    have : ks = [] := List.length_eq_zero_iff.1 hn
    subst this
    intro i k hk
    simp at hk
  · refine ⟨some ⟨g, 0, none⟩, cap, .map (some mb), h1, ?_⟩
    intro i k hk
    obtain ⟨p, hp, hc⟩ := h6 i k hk
    refine ⟨g, p, rfl, ?_, KAt.of_block hc⟩
    have := h5.cells (g := g) rfl i (ptr p) (by rw [List.getElem?_map, hp]; rfl)
    rw [Addr.add_mid, Nat.zero_add] at this
    exact this

/-- The look-up in, and the store into, the map of places, behind names that the walk does not open. -/
def look71 (m k : Value) : Sem Value := Instr.lookup 71 m k false
def upd71 (m k v : Value) : Sem Unit := Instr.mapUpdate 71 m k v
@[go_sem ↓] theorem lookup_71 (m k : Value) : Instr.lookup 71 m k false = look71 m k := rfl
@[go_sem ↓] theorem mapUpdate_71 (m k v : Value) : Instr.mapUpdate 71 m k v = upd71 m k v := rfl

abbrev barev (k : Kn) : Array Value := #[.int .i64 0, .int .i64 k.o, .int .i64 k.n, .int .i64 k.i]
theorem bare_ok {k : Kn} (h : k.valid = true) : okU k.bare := by
  simp only [Kn.valid, validB, Bool.and_eq_true, decide_eq_true_eq] at h
  simp only [okU, Kn.bare]
  omega
/-- What is known behind the test of the place. -/
structure Mid (w w5 : World) (k : Kn) (q : Nat) : Prop where
  ext : Ext w w5
  act : w5.heap[w.heap.size]? = some (.cells k.cs 56 (0, 0))
  bare : w5.heap[q]? = some (.cells (barev k) 79 (0, 0))
theorem mid {w w1 w5 : World} {k : Kn} (h1 : Ext (w.alloc (.cells k.cs 56)) w1) (h5 : Ext ((w1.alloc (.cells (plv k) 79)).alloc (.cells (barev k) 79)) w5) : Mid w w5 k (w1.heap.size + 1) := by
  refine ⟨(((Ext.new w _).trans h1).trans ((Ext.new _ _).alloc _)).trans h5, ?_, ?_⟩
  · have hs := h1.size
    simp only [World.size_alloc] at hs
    rw [h5.block _ (by simp; omega), Below.heap_alloc _ _ _ (by simp; omega), Below.heap_alloc _ _ _ (by omega), h1.block _ (by simp)]
    exact heap_alloc_last w _
  · rw [h5.block _ (by simp)]
    have := heap_alloc_last (w1.alloc (.cells (plv k) 79)) (.cells (barev k) 79)
    simpa using this
theorem row_cells {w : World} {q : Nat} {k : Kn} (h : w.heap[q]? = some (.cells (barev k) 79 (0, 0))) :
    w.cell? ⟨q, 0, none⟩ = some (.int .i64 0) ∧ w.cell? ⟨q, 1, none⟩ = some (.int .i64 k.o) ∧ w.cell? ⟨q, 2, none⟩ = some (.int .i64 k.n) ∧ w.cell? ⟨q, 3, none⟩ = some (.int .i64 k.i) := by
  refine ⟨?_, ?_, ?_, ?_⟩ <;> rw [cell_of_row w q _ _ _ _ h] <;> rfl

set_option maxRecDepth 100000 in
set_option maxHeartbeats 1000000 in
theorem add_twice (k : Kn) (base hb : Nat) (ks : List Kn) (us : List (Int × Int × Int)) (w : World) (hh : Hist w base hb ks us) (hv : k.valid = true) (hu : k.bare ∈ us) :
    Calls Try.prog 16 #[.pointer (some ⟨hb, 0, none⟩), .agg k.cs] w fun e w' => e = .returned (.int .i64 9) ∧ Ext w w' := by
  have hv' : validB k.d k.o k.n k.i = true := hv
  have hok := Lib.hid (bare_ok hv)
  clear hv
  obtain ⟨sv, mb, ps, h1, h2, h3, h4, _, _⟩ := hh
  have H1 := Lib.hid h1
  have H4 := Lib.hid h4
  have HU := Lib.hid hu
  clear h1 h2 h3 h4 hu
  go_enter Try.func16, Try.ntmps16
  go_wp2_with (first
    | (go_at_call 21; refine (of_c k _).mono ?_; rintro e w1 ⟨rfl, hy1⟩)
    | (go_at_call 22; refine (valid_c _ _ _ _ _).mono ?_; rintro e w5 ⟨rfl, hy5⟩; have hmid := Lib.hid (mid hy1 hy5); clear hy1 hy5))
  have hx := hmid.out.ext
  obtain ⟨b0, b1, b2, b3⟩ := row_cells hmid.out.bare
  have c1 : w5.cell? ⟨hb, 1, none⟩ = some (.map (some mb)) := by
    rw [World.cell?_of_block (w := w) (hx.block hb (block_lt H1.out)), cell_of_row w hb 1 _ _ _ H1.out]; rfl
  have hlk : ∀ e : Mo, (look71 (.map (some mb)) (.agg #[.int .i64 0, .int .i64 k.o, .int .i64 k.n, .int .i64 k.i])).run Try.prog (more w5 e) = .ok (.bool true) (more w5 e) := fun e => by
    have := run_lookup71 ((H4.out.same (hx.block mb H4.out.lt)).same ((more_ext w5 e).block mb (by have := hx.size; have := H4.out.lt; omega))) hok.out
    rw [decide_eq_true HU.out] at this
    exact this
  have HX := Lib.hid hx
  clear hx
  refine wp_region_more (by kernel_rfl) (by kernel_rfl) ?_
  repeat (go_big_quiet_step (fail))
  refine wpQuiet_nil ?_
  rintro _ ⟨nq, rfl⟩
  go_wp2_with fail
  go_ret
  exact ⟨rfl, HX.out.trans (more_ext _ _)⟩
end Go.Proofs.Ytfemjcbhgfhbjaa
