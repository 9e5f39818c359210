/-
  The map of the places that are used.
-/
import Derived.Test.YtfemjcbhgfhbjaaInsert
import Derived.Maps.Keyed
import Derived.DeepKeys4
namespace Go.Proofs.Ytfemjcbhgfhbjaa
open Go.RowKit Go.WideMaps

theorem insert_c (base n i : Nat) (sv : Value) (cs : List Value) (x : Value) (vb : Nat) (w : World) (hown : w.ownsRow base 76 1 sv n cs) (hi : i ≤ n) (hn : n ≤ 100000) (hb : base ≤ w.heap.size)
    (hv : w.heap[vb]? = some (.cells #[x] 76 (0, 0))) (hvb : ∀ g, sv.ownBlock = some g → vb ≠ g) (h1 : x.oneCell' = true) (h1s : ∀ v ∈ cs, v.oneCell' = true) :
    Calls Try.prog 25 #[sv, .int .i64 i, .slice (some ⟨vb, 0, none⟩) 1 1] w (Inserted base sv.ownBlock (insAt cs i x) w) := by
  have hlen : cs.length = n := by have := hown.1; simpa using this
  by_cases hin : i = n
  · subst hin
    have e : insAt cs i x = cs ++ [x] := by unfold insAt; rw [List.take_of_length_le (by omega), List.drop_eq_nil_of_le (by omega)]; simp
    rw [e]
    exact insert_end base sv i cs x vb w hown hv h1 hn hb
  · rcases hown.2 with ⟨_, rfl⟩ | ⟨g, cap, cur, rfl, hbg, hg, h2, h3, h4, h5⟩
    · omega
    · simp only [Nat.mul_one] at h4 h5
      have hvg := hvb g rfl
      subst h5
      by_cases hroom : n + 1 ≤ cap
      · exact insert_shift base g n cap i cur x vb w hg hbg h4 h3 (by omega) hroom hn hv hvg h1 h1s
      · exact insert_grow base g n cap i cur x vb w hg hb h4 h2 h3 (by omega) (by omega) hn hv h1 h1s

theorem laidOut : laidOutB Try.prog = true := by kernel_rfl
theorem row79 : (79 : TypeId) < Try.prog.types.size := of_decide_eq_true (by kernel_rfl)
theorem wide79 : (match Try.prog.underlying 79 with | some (.array _ _) | some (.struct _) => true | _ => false) = true := by rw [Try.underlying79]
set_option maxRecDepth 100000 in
theorem law79 : KeyLaw Try.prog 79 := deep_law_laid laidOut (m := 2) (by omega) row79 (by kernel_rfl) wide79

/-- The key of a place: without the day. -/
def kv (u : Int × Int × Int) : Value := .agg #[.int .i64 0, .int .i64 u.1, .int .i64 u.2.1, .int .i64 u.2.2]
theorem kv_inj {a b : Int × Int × Int} (h : kv a = kv b) : a = b := by
  obtain ⟨x, y, z⟩ := a
  obtain ⟨x', y', z'⟩ := b
  simp [kv] at h
  obtain ⟨rfl, rfl, rfl⟩ := h
  rfl
def okU (u : Int × Int × Int) : Prop := 0 ≤ u.1 ∧ u.1 < 10000 ∧ 0 ≤ u.2.1 ∧ u.2.1 < 10000 ∧ 0 ≤ u.2.2 ∧ u.2.2 < 10000
theorem wf_small {n : Int} (h0 : 0 ≤ n) (h1 : n < 10000) : (Lit.int .i64 n).wf = true := WalkArith.wf_i64 (by omega)
theorem cells79 : Try.prog.cellsOf 79 = 4 := by kernel_rfl
theorem cells3 : Try.prog.cellsOf 3 = 1 := by kernel_rfl
theorem keyType79 : Try.prog.keyType 79 = true := by kernel_rfl
theorem key_ok {u : Int × Int × Int} (h : okU u) : ∃ l, keyOf Try.prog 79 (kv u) = some l := by
  obtain ⟨a, b, c, d, e, f⟩ := h
  have hs : Try.prog.types.size = 130 := by kernel_rfl
  have h0 : (Lit.int .i64 0).wf = true := by decide
  have h1 := wf_small a b
  have h2 := wf_small c d
  have h3 := wf_small e f
  have hi : ∀ n : Int, (Lit.int .i64 n).wf = true → Try.prog.keyLits 130 3 [.int .i64 n] = some [.int .i64 n] := fun n hn => by
    unfold Program.keyLits
    rw [Try.underlying3]
    simp [hn]
  unfold keyOf
  rw [Try.underlying79]
  simp only [keyType79, Bool.true_and, hs, kv, Value.cells]
  have hf : (Value.agg #[.int .i64 0, .int .i64 u.1, .int .i64 u.2.1, .int .i64 u.2.2]).formed Try.prog 79 = true := by
    simp [Value.formed, Try.underlying79, cells79]
  rw [hf]
  simp only [if_true]
  unfold Program.keyLits
  rw [Try.underlying79]
  simp [cells79, cells3, List.range_succ, hi, h0, h1, h2, h3]

/-- Block mb is a map that holds 'true' at each of the places us. -/
def MapAt (w : World) (mb : Nat) (us : List (Int × Int × Int)) : Prop :=
  ∃ es clock, w.heap[mb]? = some (.map es clock) ∧ es.toList.map (fun e => (e.key, e.val)) = us.map (fun u => (kv u, Value.bool true)) ∧ ∀ u ∈ us, okU u
theorem MapAt.same {w w' : World} {mb : Nat} {us : List (Int × Int × Int)} (h : MapAt w mb us) (hb : w'.heap[mb]? = w.heap[mb]?) : MapAt w' mb us := by
  obtain ⟨es, clock, h1, h2⟩ := h
  exact ⟨es, clock, hb.trans h1, h2⟩
theorem MapAt.lt {w : World} {mb : Nat} {us : List (Int × Int × Int)} (h : MapAt w mb us) : mb < w.heap.size := by
  obtain ⟨es, clock, h1, _⟩ := h
  exact block_lt h1
theorem map_entry {es : Array MapEntry} {us : List (Int × Int × Int)} (h : es.toList.map (fun e => (e.key, e.val)) = us.map (fun u => (kv u, Value.bool true))) :
    (∀ e ∈ es.toList, ∃ u ∈ us, e.key = kv u ∧ e.val = .bool true) ∧ (∀ u ∈ us, ∃ e ∈ es.toList, e.key = kv u) := by
  constructor
  · intro e he
    have : (e.key, e.val) ∈ es.toList.map (fun e => (e.key, e.val)) := List.mem_map.2 ⟨e, he, rfl⟩
    rw [h] at this
    obtain ⟨u, hu, hk⟩ := List.mem_map.1 this
    simp only [Prod.mk.injEq] at hk
    exact ⟨u, hu, hk.1.symm, hk.2.symm⟩
  · intro u hu
    have : (kv u, Value.bool true) ∈ us.map (fun u => (kv u, Value.bool true)) := List.mem_map.2 ⟨u, hu, rfl⟩
    rw [← h] at this
    obtain ⟨e, he, hk⟩ := List.mem_map.1 this
    simp only [Prod.mk.injEq] at hk
    exact ⟨e, he, hk.1⟩

theorem run_lookup71 {w : World} {mb : Nat} {us : List (Int × Int × Int)} (h : MapAt w mb us) {u : Int × Int × Int} (hu : okU u) :
    (Instr.lookup 71 (.map (some mb)) (kv u) false).run Try.prog w = .ok (.bool (decide (u ∈ us))) w := by
  obtain ⟨es, clock, hb, hes, hok⟩ := h
  obtain ⟨h1, h2⟩ := map_entry hes
  obtain ⟨l, hl⟩ := key_ok hu
  have hz : (zeroValue 4).run Try.prog w = .ok (.bool false) w := by kernel_rfl
  have hkeys : ∀ e ∈ es.toList, ∃ l, keyOf Try.prog 79 e.key = some l := by
    intro e he
    obtain ⟨u', hu', hk, _⟩ := h1 e he
    rw [hk]
    exact key_ok (hok u' hu')
  rcases law79.find w hl es.toList hkeys with ⟨hf, hne⟩ | ⟨j, e, hf, he, hk⟩
  · have hn : ¬ u ∈ us := fun hm => by
      obtain ⟨e, he, hk⟩ := h2 u hm
      exact hne e he hk
    simp [Instr.lookup, run_underlying Try.underlying71, MapKept.run_getObj_map hb, law79.check w _ hl, hf, hz, Result.andThen, hn]
  · obtain ⟨u', hu', hk', hv⟩ := h1 e (List.mem_of_getElem? he)
    have : u' = u := kv_inj (hk'.symm.trans hk)
    subst this
    simp [Instr.lookup, run_underlying Try.underlying71, MapKept.run_getObj_map hb, law79.check w _ hl, hf, Result.andThen, hu', hv]

theorem run_update71 {w : World} {mb : Nat} {us : List (Int × Int × Int)} (h : MapAt w mb us) {u : Int × Int × Int} (hu : okU u) (hn : ¬ u ∈ us) :
    ∃ w', (Instr.mapUpdate 71 (.map (some mb)) (kv u) (.bool true)).run Try.prog w = .ok () w' ∧ MapAt w' mb (us ++ [u]) ∧ w.grownBy w' (some mb) ∧ w'.heap.size = w.heap.size := by
  obtain ⟨es, clock, hb, hes, hok⟩ := h
  obtain ⟨h1, h2⟩ := map_entry hes
  obtain ⟨l, hl⟩ := key_ok hu
  have hkeys : ∀ e ∈ es.toList, ∃ l, keyOf Try.prog 79 e.key = some l := by
    intro e he
    obtain ⟨u', hu', hk, _⟩ := h1 e he
    rw [hk]
    exact key_ok (hok u' hu')
  rcases law79.find w hl es.toList hkeys with ⟨hf, hne⟩ | ⟨j, e, hf, he, hk⟩
  · refine ⟨{ w with heap := w.heap.setIfInBounds mb (.map (es.push { key := kv u, val := .bool true, born := clock }) (clock + 1)) }, ?_, ?_, ?_, ?_⟩
    · simp only [Instr.mapUpdate, Sem.run_bind, run_underlying Try.underlying71, Result.andThen_ok, MapKept.run_getObj_map hb, law79.check w _ hl, hf]
      simp [setObj, Sem.run, hb]
    · refine ⟨es.push { key := kv u, val := .bool true, born := clock }, clock + 1, ?_, ?_, ?_⟩
      · rw [Array.getElem?_setIfInBounds_self_of_lt (block_lt hb)]
      · simp [hes]
      · intro x hx
        rcases List.mem_append.1 hx with hx | hx
        · exact hok x hx
        · simp at hx; rw [hx]; exact hu
    · exact ⟨rfl, rfl, rfl, by simp, fun k _ hk => by
        show (w.heap.setIfInBounds mb _)[k]? = _
        rw [Array.getElem?_setIfInBounds_ne (fun e => hk (by rw [e]))]⟩
    · simp
  · obtain ⟨u', hu', hk', hv⟩ := h1 e (List.mem_of_getElem? he)
    exact absurd (kv_inj (hk'.symm.trans hk) ▸ hu') hn
end Go.Proofs.Ytfemjcbhgfhbjaa
