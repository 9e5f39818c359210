/-
  What a known act is in memory: 49 cells; loads and stores of whole acts, without opening them.
-/
import Derived.Test.YtfemjcbhgfhbjaaProg
import Derived.WalkKit
import Derived.WalkSpells
import Derived.WalkLawsBesides
import Derived.Deep.MidRow
import Derived.Deep.WholeRow
import Derived.Lib.Hide
import Derived.KernelRfl
namespace Go.Proofs.Ytfemjcbhgfhbjaa
open Go.RowKit

/-- A known act: its place, the kind, Id and day of its act, and the other cells. -/
structure Kn where
  d : Int
  o : Int
  n : Int
  i : Int
  kd : Int
  id : ByteArray
  ad : Int
  rest : List Value
  hr : rest.length = 42
  h1 : rest.all (·.oneCell') = true

def Kn.cl (k : Kn) : List Value := .int .i64 k.d :: .int .i64 k.o :: .int .i64 k.n :: .int .i64 k.i :: .int .i64 k.kd :: .string k.id :: .int .i64 k.ad :: k.rest
def Kn.cs (k : Kn) : Array Value := k.cl.toArray
theorem Kn.len (k : Kn) : k.cl.length = 49 := by simp [Kn.cl, k.hr]
theorem Kn.size (k : Kn) : k.cs.size = 49 := by simp [Kn.cs, k.len]
theorem Kn.one (k : Kn) : k.cs.all (·.oneCell') = true := by
  simp only [Kn.cs, List.all_toArray]
  have h := k.h1
  simp only [Kn.cl, List.all_cons, h, Bool.and_true]
  rfl
theorem Kn.one' (k : Kn) : ∀ u ∈ k.cl, u.oneCell' = true := by
  have := k.one
  simp only [Kn.cs, List.all_toArray, List.all_eq_true] at this
  exact this
@[go_sem] theorem Kn.cs0 (k : Kn) : k.cs[0]? = some (.int .i64 k.d) := by simp [Kn.cs, Kn.cl]
@[go_sem] theorem Kn.cs1 (k : Kn) : k.cs[1]? = some (.int .i64 k.o) := by simp [Kn.cs, Kn.cl]
@[go_sem] theorem Kn.cs2 (k : Kn) : k.cs[2]? = some (.int .i64 k.n) := by simp [Kn.cs, Kn.cl]
@[go_sem] theorem Kn.cs3 (k : Kn) : k.cs[3]? = some (.int .i64 k.i) := by simp [Kn.cs, Kn.cl]
@[go_sem] theorem Kn.cs4 (k : Kn) : k.cs[4]? = some (.int .i64 k.kd) := by simp [Kn.cs, Kn.cl]
@[go_sem] theorem Kn.cs5 (k : Kn) : k.cs[5]? = some (.string k.id) := by simp [Kn.cs, Kn.cl]
@[go_sem] theorem Kn.cs6 (k : Kn) : k.cs[6]? = some (.int .i64 k.ad) := by simp [Kn.cs, Kn.cl]

/-- The act k lies in block b from offset o on. -/
def KAt (w : World) (b o : Nat) (k : Kn) : Prop := w.rangeAt b o k.cl
/-- Some act lies there; which one. -/
def HasK (w : World) (b o : Nat) : Prop := ∃ k, KAt w b o k
noncomputable def kAt (w : World) (b o : Nat) : Array Value :=
  (((List.range 49).map fun j => (w.cell? ⟨b, o + j, none⟩).getD undef)).toArray
theorem KAt.has {w : World} {b o : Nat} {k : Kn} (h : KAt w b o k) : HasK w b o := ⟨k, h⟩
theorem KAt.eq {w : World} {b o : Nat} {k : Kn} (h : KAt w b o k) : kAt w b o = k.cs := by
  unfold kAt Kn.cs
  congr 1
  apply List.ext_getElem?
  intro j
  simp only [List.getElem?_map]
  by_cases hj : j < 49
  · have h2 : k.cl[j]? = some (k.cl[j]'(by rw [k.len]; exact hj)) := List.getElem?_eq_getElem _
    rw [List.getElem?_range hj, h2]
    simp [h j _ h2]
  · rw [List.getElem?_eq_none (by simp; omega), List.getElem?_eq_none (by rw [k.len]; omega)]
    rfl
theorem KAt.cell {w : World} {b o : Nat} {k : Kn} (h : KAt w b o k) :
    w.cell? ⟨b, o, none⟩ = some (.int .i64 k.d) ∧ w.cell? ⟨b, o + 1, none⟩ = some (.int .i64 k.o) ∧ w.cell? ⟨b, o + 2, none⟩ = some (.int .i64 k.n) ∧
    w.cell? ⟨b, o + 3, none⟩ = some (.int .i64 k.i) ∧ w.cell? ⟨b, o + 4, none⟩ = some (.int .i64 k.kd) ∧ w.cell? ⟨b, o + 5, none⟩ = some (.string k.id) ∧
    w.cell? ⟨b, o + 6, none⟩ = some (.int .i64 k.ad) :=
  ⟨h 0 _ rfl, h 1 _ rfl, h 2 _ rfl, h 3 _ rfl, h 4 _ rfl, h 5 _ rfl, h 6 _ rfl⟩

theorem info56 : (Try.prog.info? 56).map (·.size) = some 49 := by kernel_rfl
theorem row56 : ∃ d, Try.prog.underlying 56 = some d ∧ d.isRow = true := ⟨_, Try.underlying56, rfl⟩

/-- The load and the store of a whole act, behind names that the walk does not open. -/
def loadK (v : Value) : Sem Value := Instr.loadAt 56 v
def storeK (v x : Value) : Sem Unit := Instr.storeAt 56 v x
@[go_sem ↓] theorem loadAt_K (v : Value) : Instr.loadAt 56 v = loadK v := rfl
@[go_sem ↓] theorem storeAt_K (v x : Value) : Instr.storeAt 56 v x = storeK v x := rfl
/-- A whole act is loaded. -/
@[go_sem] theorem run_loadK (w : World) (b o : Nat) (h : HasK w b o) :
    (loadK (.pointer (some ⟨b, o, none⟩))).run Try.prog w = .ok (.agg (kAt w b o)) w := by
  obtain ⟨k, hk⟩ := h
  obtain ⟨d, hu, hd⟩ := row56
  rw [hk.eq]
  exact run_loadAt_mid w b o 56 k.cl d hk hu hd (by rw [info56, k.len])
/-- A whole act is stored into the block that was made last. -/
@[go_sem] theorem run_storeK_new (w : World) (c : Array Value) (k : Kn) (h : (c.size == 49) = true) :
    (storeK (.pointer (some ⟨w.heap.size, 0, none⟩)) (.agg k.cs)).run Try.prog (w.alloc (.cells c 56)) = .ok () (w.alloc (.cells k.cs 56)) :=
  run_storeAt_new w 56 c k.cs (by rw [info56, k.size]) (by simp at h; rw [h, k.size]) k.one

/-! ### where an act stays -/
theorem KAt.of_block {w : World} {b : Nat} {k : Kn} {t : TypeId} {fr : Nat × Nat} (h : w.heap[b]? = some (.cells k.cs t fr)) : KAt w b 0 k := by
  intro j v hv
  rw [Nat.zero_add, cell_of_row w b j k.cs t fr h]
  simpa [Kn.cs] using hv
theorem KAt.lt {w : World} {b o : Nat} {k : Kn} (h : KAt w b o k) : b < w.heap.size := block_lt_of_cell h.cell.1
theorem KAt.same {w w' : World} {b o : Nat} {k : Kn} (h : KAt w b o k) (hb : w'.heap[b]? = w.heap[b]?) : KAt w' b o k := by
  intro j v hv
  rw [World.cell?_of_block (w := w) (a := ⟨b, o + j, none⟩) hb]
  exact h j v hv
theorem KAt.below {w w' : World} {b o B : Nat} {k : Kn} (h : KAt w b o k) (hb : Below B w w') (hB : b < B) : KAt w' b o k := h.same (hb.block b hB)
/-- What a call that only makes memory leaves. -/
abbrev Ext (w w' : World) : Prop := Below w.heap.size w w'
theorem KAt.ext {w w' : World} {b o : Nat} {k : Kn} (h : KAt w b o k) (hb : Ext w w') : KAt w' b o k := h.below hb h.lt
theorem KAt.new (w : World) (k : Kn) (t : TypeId) : KAt (w.alloc (.cells k.cs t)) w.heap.size 0 k := KAt.of_block (heap_alloc_last w _)
theorem KAt.alloc {w : World} {b o : Nat} {k : Kn} (h : KAt w b o k) (x : Obj) : KAt (w.alloc x) b o k := h.same (Below.heap_alloc w x b h.lt)
theorem KAt.drew {w : World} {b o : Nat} {k : Kn} (h : KAt w b o k) : KAt w.drew b o k := h
theorem Ext.refl (w : World) : Ext w w := Below.refl _ _
theorem Ext.trans {a b c : World} (h : Ext a b) (k : Ext b c) : Ext a c := Below.trans h (k.mono h.size)
theorem Ext.alloc {a w : World} (h : Ext a w) (o : Obj) : Ext a (w.alloc o) := Below.alloc h h.size o
theorem Ext.new (w : World) (o : Obj) : Ext w (w.alloc o) := (Ext.refl w).alloc o
theorem Ext.drew {a w : World} (h : Ext a w) : Ext a w.drew := Below.drew h
theorem Ext.setCell {a w : World} (h : Ext a w) {p : Addr} (hp : a.heap.size ≤ p.block) (u : Value) : Ext a (w.setCell p u) := Below.setCell h hp u
theorem Below.setRow {B : Nat} {a w : World} (h : Below B a w) {g : Nat} (hg : B ≤ g) (cs : Array Value) : Below B a (w.setRow g cs) :=
  h.trans ⟨rfl, rfl, rfl, by simp, fun k hk => setRow_other w g k cs (by omega)⟩
theorem Ext.setRow {a w : World} (h : Ext a w) {g : Nat} (hg : a.heap.size ≤ g) (cs : Array Value) : Ext a (w.setRow g cs) := Below.setRow h hg cs
/-- What is known of old cells and old marks behind such a call. -/
theorem Ext.cells {W w1 : World} (hb : Ext W w1) : (∀ b o, b < W.heap.size → w1.cell? ⟨b, o, none⟩ = W.cell? ⟨b, o, none⟩) ∧ (∀ b o, b < W.heap.size → w1.frozen? ⟨b, o, none⟩ = W.frozen? ⟨b, o, none⟩) ∧ W.heap.size ≤ w1.heap.size :=
  ⟨fun b o h => hb.cell (p := ⟨b, o, none⟩) h, fun b o h => hb.frozen (p := ⟨b, o, none⟩) h, hb.size⟩
@[go_sem] theorem hasK_new (w : World) (k : Kn) (t : TypeId) (n : Nat) (hn : n = w.heap.size) : HasK (w.alloc (.cells k.cs t)) n 0 := by subst hn; exact (KAt.new w k t).has
@[go_sem] theorem kAt_new (w : World) (k : Kn) (t : TypeId) (n : Nat) (hn : n = w.heap.size) : kAt (w.alloc (.cells k.cs t)) n 0 = k.cs := by subst hn; exact (KAt.new w k t).eq
@[go_sem] theorem hasK_old (w : World) (x : Obj) (b o : Nat) (h : HasK w b o) : HasK (w.alloc x) b o := by
  obtain ⟨k, hk⟩ := h
  exact (hk.alloc x).has
@[go_sem] theorem kAt_old (w : World) (x : Obj) (b o : Nat) (h : HasK w b o) : kAt (w.alloc x) b o = kAt w b o := by
  obtain ⟨k, hk⟩ := h
  rw [(hk.alloc x).eq, hk.eq]
@[go_sem] theorem hasK_drew (w : World) (b o : Nat) (h : HasK w b o) : HasK w.drew b o := h
@[go_sem] theorem kAt_drew (w : World) (b o : Nat) : kAt w.drew b o = kAt w b o := rfl
@[go_sem] theorem hasK_first (w : World) (k : Kn) (t : TypeId) (x : Obj) : HasK ((w.alloc (.cells k.cs t)).alloc x) w.heap.size 0 := ((KAt.new w k t).alloc x).has
@[go_sem] theorem kAt_first (w : World) (k : Kn) (t : TypeId) (x : Obj) : kAt ((w.alloc (.cells k.cs t)).alloc x) w.heap.size 0 = k.cs := ((KAt.new w k t).alloc x).eq
theorem KAt.second (w : World) (k : Kn) (t : TypeId) (x : Obj) : KAt ((w.alloc x).alloc (.cells k.cs t)) (w.heap.size + 1) 0 k := by
  have := KAt.new (w.alloc x) k t
  simpa using this
@[go_sem] theorem hasK_second (w : World) (k : Kn) (t : TypeId) (x : Obj) : HasK ((w.alloc x).alloc (.cells k.cs t)) (w.heap.size + 1) 0 := (KAt.second w k t x).has
@[go_sem] theorem kAt_second (w : World) (k : Kn) (t : TypeId) (x : Obj) : kAt ((w.alloc x).alloc (.cells k.cs t)) (w.heap.size + 1) 0 = k.cs := (KAt.second w k t x).eq
end Go.Proofs.Ytfemjcbhgfhbjaa
