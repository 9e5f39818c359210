/-
  Slices of acts that are written out: '[]api.Known{a, b, c}', and the one element of an append.
-/
import Derived.Test.YtfemjcbhgfhbjaaSame
namespace Go.Proofs.Ytfemjcbhgfhbjaa
open Go.RowKit

theorem fold_list (off : Nat) : ∀ (v : List Value) (n : Nat) (cells : Array Value), off + n + v.length ≤ cells.size →
    ((v.zipIdx n).foldl (fun (cs : Array Value) (x : Value × Nat) => cs.setIfInBounds (off + x.2) x.1) cells).toList = cells.toList.take (off + n) ++ v ++ cells.toList.drop (off + n + v.length)
  | [], n, cells, _ => by simp
  | c :: v, n, cells, h => by
    simp only [List.length_cons] at h
    simp only [List.zipIdx_cons, List.foldl_cons]
    rw [fold_list off v (n + 1) _ (by simp; omega)]
    simp only [Array.toList_setIfInBounds, List.length_cons]
    apply List.ext_getElem?
    intro j
    have hs : off + n < cells.toList.length := by simp; omega
    simp only [List.getElem?_append, List.length_append, List.length_take, List.length_set, Array.length_toList, List.getElem?_take, List.getElem?_drop, List.getElem?_set, List.length_cons]
    by_cases h1 : j < off + n
    · simp [h1, show j < min (off + (n + 1)) cells.size from by omega, show j < min (off + (n + 1)) cells.size + v.length from by omega, show j < off + (n + 1) from by omega, show off + n ≠ j from by omega, show j < min (off + n) cells.size from by omega, show j < min (off + n) cells.size + (v.length + 1) from by omega]
    · by_cases h2 : j = off + n
      · subst h2
        simp [show off + n < min (off + (n + 1)) cells.size from by omega, show off + n < min (off + (n + 1)) cells.size + v.length from by omega, show off + n < off + (n + 1) from by omega, show min (off + n) cells.size = off + n from by omega]
        omega
      · have e1 : min (off + (n + 1)) cells.size = off + n + 1 := by omega
        have e2 : min (off + n) cells.size = off + n := by omega
        rw [e1, e2]
        obtain ⟨m, rfl⟩ : ∃ m, j = off + n + 1 + m := ⟨j - (off + n + 1), by omega⟩
        simp only [show ¬ off + n + 1 + m < off + n + 1 from by omega, show ¬ off + n + 1 + m < off + n from by omega, if_false, show off + n + 1 + m - (off + n + 1) = m from by omega, show off + n + 1 + m - (off + n) = m + 1 from by omega, List.getElem?_cons_succ]
        by_cases h3 : m < v.length
        · rw [if_pos (by omega), if_pos (by omega)]
        · rw [if_neg (by omega), if_neg (by omega), if_neg (by omega)]
          congr 1
          omega

theorem fold_cells (off : Nat) (v cells : Array Value) (h : off + v.size ≤ cells.size) :
    v.zipIdx.foldl (fun (cs : Array Value) (x : Value × Nat) => cs.setIfInBounds (off + x.2) x.1) cells = (cells.toList.take off ++ v.toList ++ cells.toList.drop (off + v.size)).toArray := by
  rw [← Array.foldl_toList, Array.toList_zipIdx]
  have := fold_list off v.toList 0 cells (by simpa using h)
  simp only [Nat.add_zero, Array.length_toList] at this
  rw [← this]

theorem fill_cons (place : Nat → Option (Nat × Nat)) (cells : Array Value) (i off size : Nat) (k : Array Value) (rest : List (Nat × Value)) (hp : place i = some (off, size)) (hk : k.size = size) (hf : off + size ≤ cells.size) :
    Instr.fill place cells ((i, .agg k) :: rest) = Instr.fill place (cells.toList.take off ++ k.toList ++ cells.toList.drop (off + k.size)).toArray rest := by
  subst hk
  have hc : ((Value.agg k).cells.size ≠ k.size || off + (Value.agg k).cells.size > cells.size) = false := by
    show ((k.size ≠ k.size : Bool) || (off + k.size > cells.size : Bool)) = false
    simp
    omega
  rw [Instr.fill, hp]
  show (if ((Value.agg k).cells.size ≠ k.size || off + (Value.agg k).cells.size > cells.size) = true then none else Instr.fill place (k.zipIdx.foldl (fun (cs : Array Value) (x : Value × Nat) => cs.setIfInBounds (off + x.2) x.1) cells) rest) = _
  rw [hc, fold_cells off k cells (by omega)]
  rfl

/-- The making of a slice of acts, behind a name that the walk does not open. -/
def buildK (n : Nat) (parts : Array (Nat × Value)) : Sem Value := Instr.buildSlice 22 n parts
@[go_sem ↓] theorem buildSlice_K (n : Nat) (parts : Array (Nat × Value)) : Instr.buildSlice 22 n parts = buildK n parts := rfl

theorem info56b : (Try.prog.info? 56).map (fun i => (i.zero.map (·.cells.size), i.size, i.bytes)) = some (some 49, 49, 696) := by kernel_rfl
theorem zero56 : ∃ i z, Try.prog.info? 56 = some i ∧ i.zero = some z ∧ z.cells.size = 49 ∧ i.size = 49 ∧ i.bytes = 696 := by
  have h := info56b
  cases hi : Try.prog.info? 56 with
  | none => rw [hi] at h; cases h
  | some i =>
    rw [hi] at h
    simp only [Option.map_some, Option.some.injEq, Prod.mk.injEq, Option.map_eq_some_iff] at h
    obtain ⟨⟨z, hz, hs⟩, h2, h3⟩ := h
    exact ⟨i, z, rfl, hz, hs, h2, h3⟩

/-- All cells of some acts, one act behind the other. -/
def flat (ks : List Kn) : List Value := ks.flatMap Kn.cl
theorem flat_len (ks : List Kn) : (flat ks).length = ks.length * 49 := by
  induction ks with
  | nil => rfl
  | cons k ks ih => simp only [flat, List.flatMap_cons, List.length_append, List.length_cons] at *; rw [ih, k.len]; omega
theorem flat_one (k : Kn) : flat [k] = k.cl := by simp [flat]
theorem flat_append (a b : List Kn) : flat (a ++ b) = flat a ++ flat b := by simp [flat]
theorem flat_get : ∀ (ks : List Kn) (i : Nat) (k : Kn) (j : Nat) (v : Value), ks[i]? = some k → k.cl[j]? = some v → (flat ks)[i * 49 + j]? = some v
  | [], i, k, j, v, h, _ => by simp at h
  | x :: ks, 0, k, j, v, h, hv => by
    simp only [List.getElem?_cons_zero, Option.some.injEq] at h
    subst h
    have hj : j < x.cl.length := (List.getElem?_eq_some_iff.1 hv).1
    simp only [flat, List.flatMap_cons, Nat.zero_mul, Nat.zero_add]
    rw [List.getElem?_append_left hj]
    exact hv
  | x :: ks, i + 1, k, j, v, h, hv => by
    simp only [List.getElem?_cons_succ] at h
    have := flat_get ks i k j v h hv
    simp only [flat, List.flatMap_cons]
    rw [List.getElem?_append_right (by rw [x.len]; omega), x.len]
    rw [← this]
    congr 1
    omega
theorem flat_oneCell (ks : List Kn) : ∀ u ∈ flat ks, u.oneCell' = true := by
  intro u hu
  simp only [flat, List.mem_flatMap] at hu
  obtain ⟨k, _, hk⟩ := hu
  exact k.one' u hk

def partsFrom : Nat → List Kn → List (Nat × Value)
  | _, [] => []
  | i, k :: ks => (i, .agg k.cs) :: partsFrom (i + 1) ks
theorem fill_from : ∀ (ks : List Kn) (i : Nat) (cells : Array Value), (i + ks.length) * 49 ≤ cells.size →
    Instr.fill (fun i => some (i * 49, 49)) cells (partsFrom i ks) = some (cells.toList.take (i * 49) ++ flat ks ++ cells.toList.drop ((i + ks.length) * 49)).toArray
  | [], i, cells, _ => by simp [partsFrom, Instr.fill, flat]
  | k :: ks, i, cells, h => by
    simp only [List.length_cons] at h
    simp only [partsFrom]
    rw [fill_cons _ cells i (i * 49) 49 k.cs _ rfl k.size (by omega)]
    rw [fill_from ks (i + 1) _ (by simp [k.size]; omega)]
    simp only [Option.some.injEq]
    congr 1
    have e1 : k.cs.toList = k.cl := rfl
    have l1 : (List.take (i * 49) cells.toList ++ k.cl).length = (i + 1) * 49 := by simp [k.len]; omega
    rw [k.size, e1]
    rw [List.take_append_of_le_length (by omega), List.take_of_length_le (by omega)]
    rw [List.drop_append, List.drop_eq_nil_of_le (by rw [l1]; exact Nat.mul_le_mul_right _ (by omega)), l1, List.nil_append, List.drop_drop]
    have e2 : i * 49 + 49 + ((i + 1 + ks.length) * 49 - (i + 1) * 49) = (i + (ks.length + 1)) * 49 := by omega
    rw [e2]
    simp only [flat, List.flatMap_cons, List.append_assoc, List.length_cons]

theorem run_buildK (w : World) (ks : List Kn) (hl : ks.length ≤ 100) :
    (buildK ks.length (partsFrom 0 ks).toArray).run Try.prog w = .ok (.slice (some ⟨w.heap.size, 0, none⟩) ks.length ks.length) (w.alloc (.cells (flat ks).toArray 56)) := by
  obtain ⟨i, z, hi, hz, hzs, hs, _⟩ := zero56
  have hu : (underlying 22).run Try.prog w = .ok (.slice 56) w := run_underlying Try.underlying22 w
  have hso : (sizeOf 56).run Try.prog w = .ok 49 w := by simp [sizeOf, typeInfo, hi, hs]
  have hzv : (zeroValue 56).run Try.prog w = .ok z w := by simp [zeroValue, typeInfo, hi, hz]
  have hfill := fill_from ks 0
  simp only [Nat.zero_mul, List.take_zero, List.nil_append, Nat.zero_add] at hfill
  have hb : ¬ (ks.length * 49 > 2 ^ 24) := by omega
  unfold buildK Instr.buildSlice
  simp only [Sem.run_bind, hu, Result.andThen_ok, hso]
  rw [if_neg hb]
  have key : ∀ zero : Array Value, Instr.fill (fun i => some (i * 49, 49)) (Array.map (fun x => zero[x % zero.size]!) (Array.range (ks.length * 49))) (partsFrom 0 ks) = some (flat ks).toArray := by
    intro zero
    rw [hfill _ (by simp), List.drop_eq_nil_of_le (by simp), List.append_nil]
  have hnew : ∀ cs : Array Value, (newRow 56 cs).run Try.prog w = .ok ⟨w.heap.size, 0, none⟩ (w.alloc (.cells cs 56)) := fun cs => by
    simp [newRow, newObj, Sem.run]
  split
  · simp only [Sem.run_bind, Sem.run_pure, Result.andThen_ok]
    rw [key]
    simp only [Sem.run_bind, Sem.run_pure, Result.andThen_ok, hnew]
  · simp only [Sem.run_bind, Sem.run_pure, Result.andThen_ok, hzv]
    rw [key]
    simp only [Sem.run_bind, Sem.run_pure, Result.andThen_ok, hnew]

@[go_sem] theorem run_buildK0 (w : World) : (buildK 0 #[]).run Try.prog w = .ok (.slice (some ⟨w.heap.size, 0, none⟩) 0 0) (w.alloc (.cells #[] 56)) := run_buildK w [] (by decide)
@[go_sem] theorem run_buildK1 (w : World) (k : Kn) : (buildK 1 #[(0, .agg k.cs)]).run Try.prog w = .ok (.slice (some ⟨w.heap.size, 0, none⟩) 1 1) (w.alloc (.cells k.cs 56)) := by
  have := run_buildK w [k] (by simp)
  rw [flat_one] at this
  exact this
@[go_sem] theorem run_buildK3 (w : World) (a b c : Kn) : (buildK 3 #[(0, .agg a.cs), (1, .agg b.cs), (2, .agg c.cs)]).run Try.prog w = .ok (.slice (some ⟨w.heap.size, 0, none⟩) 3 3) (w.alloc (.cells (flat [a, b, c]).toArray 56)) :=
  run_buildK w [a, b, c] (by simp)

/-- A slice whose cells are those of the acts. -/
theorem KSl.of_flat {w : World} {b : Nat} {ks : List Kn} {t : TypeId} {cur : Array Value} {fr : Nat × Nat} (h : w.heap[b]? = some (.cells cur t fr)) (hc : cur.toList.take (ks.length * 49) = flat ks) : KSl w (some ⟨b, 0, none⟩) ks := by
  intro i k hk
  refine ⟨b, 0, rfl, ?_⟩
  intro j v hv
  have hf := flat_get ks i k j v hk hv
  rw [← hc, List.getElem?_take] at hf
  split at hf
  · rw [Nat.zero_add, cell_of_row w b _ cur t fr h]
    simpa using hf
  · cases hf
theorem KSl.nil (w : World) (ao : Option Addr) : KSl w ao [] := by intro i k hk; simp at hk
theorem KSl.of_owns {w : World} {base : Nat} {v : Value} {ks : List Kn} (h : w.ownsRow base 56 49 v ks.length (flat ks)) : ∃ ao c, v = .slice ao ks.length c ∧ KSl w ao ks := by
  obtain ⟨_, h⟩ := h
  rcases h with ⟨rfl, hn⟩ | ⟨g, cap, cur, rfl, _, hg, _, _, _, ht⟩
  · have : ks = [] := List.length_eq_zero_iff.1 hn
    subst this
    exact ⟨none, 0, rfl, KSl.nil _ _⟩
  · exact ⟨_, cap, rfl, KSl.of_flat hg ht⟩

end Go.Proofs.Ytfemjcbhgfhbjaa
