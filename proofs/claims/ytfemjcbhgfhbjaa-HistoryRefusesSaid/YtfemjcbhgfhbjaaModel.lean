/-
  What a history is, without the program: a sorted list of acts.
-/
import Derived.Test.YtfemjcbhgfhbjaaAddOk
namespace Go.Proofs.Ytfemjcbhgfhbjaa
open Go.RowKit

theorem cmpI_lt {x y : Int} : cmpI x y < 0 ↔ x < y := by
  unfold cmpI
  split
  · omega
  · split <;> omega
theorem cmpI_swap (x y : Int) : cmpI y x = - cmpI x y := by
  unfold cmpI
  split <;> split <;> (try split) <;> omega
theorem cmpI_vals (x y : Int) : cmpI x y = -1 ∨ cmpI x y = 0 ∨ cmpI x y = 1 := by
  unfold cmpI
  split
  · simp
  · split <;> simp
/-- Before: by day, office, number, index. -/
def Lt (a b : Kn) : Prop := cmpL a.pl b.pl < 0
theorem Lt_iff (a b : Kn) : Lt a b ↔ a.d < b.d ∨ a.d = b.d ∧ (a.o < b.o ∨ a.o = b.o ∧ (a.n < b.n ∨ a.n = b.n ∧ a.i < b.i)) := by
  unfold Lt
  rw [cmpL_pl]
  split
  · split
    · split
      · rw [cmpI_lt]; omega
      · rw [cmpI_lt]; omega
    · rw [cmpI_lt]; omega
  · rw [cmpI_lt]; omega
theorem Lt.trans {a b c : Kn} (h : Lt a b) (k : Lt b c) : Lt a c := by
  rw [Lt_iff] at *
  omega
theorem Lt.irrefl (a : Kn) : ¬ Lt a a := by rw [Lt_iff]; omega
theorem cmpL_zero {a b : Kn} : cmpL a.pl b.pl = 0 ↔ a.d = b.d ∧ a.o = b.o ∧ a.n = b.n ∧ a.i = b.i := by
  rw [cmpL_pl]
  split
  · split
    · split
      · rw [cmpI_zero]; simp_all
      · rw [cmpI_zero]; simp_all
    · rw [cmpI_zero]; simp_all
  · rw [cmpI_zero]; simp_all
theorem cmpL_vals (a b : Kn) : cmpL a.pl b.pl = -1 ∨ cmpL a.pl b.pl = 0 ∨ cmpL a.pl b.pl = 1 := by
  rw [cmpL_pl]
  split
  · split
    · split
      · exact cmpI_vals _ _
      · exact cmpI_vals _ _
    · exact cmpI_vals _ _
  · exact cmpI_vals _ _
theorem Lt.minus {a b : Kn} (h : Lt a b) : cmpL a.pl b.pl = -1 := by
  have := cmpL_vals a b
  unfold Lt at h
  omega
theorem Lt.total {a b : Kn} (h : ¬ a.bare = b.bare) : Lt a b ∨ Lt b a := by
  rw [Lt_iff, Lt_iff]
  simp only [Kn.bare, Prod.mk.injEq] at h
  omega
theorem eqv_refl (a : Kn) : a.eqv a = true := by
  have : cmpL a.pl a.pl = 0 := cmpL_zero.2 ⟨rfl, rfl, rfl, rfl⟩
  simp [Kn.eqv, this]

/-- In order, and with different places without days; us: these places. -/
structure Inv (ks : List Kn) (us : List (Int × Int × Int)) : Prop where
  sorted : ks.Pairwise Lt
  used : ∀ u, u ∈ us ↔ ∃ k ∈ ks, k.bare = u
  valid : ∀ k ∈ ks, k.valid = true
theorem Inv.nil : Inv [] [] := ⟨List.Pairwise.nil, by simp, by simp⟩

def posK (ks : List Kn) (k : Kn) : Nat := (ks.takeWhile fun x => decide (cmpL x.pl k.pl < 0)).length
theorem posK_le (ks : List Kn) (k : Kn) : posK ks k ≤ ks.length := List.Sublist.length_le (List.takeWhile_sublist _)
theorem posK_iff : ∀ {ks : List Kn} {k : Kn}, ks.Pairwise Lt → ∀ (h : Nat) (x : Kn), ks[h]? = some x → (cmpL x.pl k.pl < 0 ↔ h < posK ks k)
  | [], k, _, h, x, hx => by simp at hx
  | y :: ks, k, hs, h, x, hx => by
    rw [List.pairwise_cons] at hs
    unfold posK
    rw [List.takeWhile_cons]
    by_cases hy : cmpL y.pl k.pl < 0
    · simp only [hy, decide_true, if_true, List.length_cons]
      rcases h with _ | h
      · simp only [List.getElem?_cons_zero, Option.some.injEq] at hx
        subst hx
        simp [hy]
      · simp only [List.getElem?_cons_succ] at hx
        have := posK_iff hs.2 h x hx (k := k)
        rw [this]
        unfold posK
        omega
    · simp only [hy, decide_false, Bool.false_eq_true, if_false, List.length_nil, Nat.not_lt_zero, iff_false]
      rcases h with _ | h
      · simp only [List.getElem?_cons_zero, Option.some.injEq] at hx
        subst hx
        exact hy
      · simp only [List.getElem?_cons_succ] at hx
        intro hc
        exact hy (Lt.trans (hs.1 x (List.mem_of_getElem? hx)) hc)

/-- The act k comes to the acts ks. -/
def insK (ks : List Kn) (k : Kn) : List Kn := insAt ks (posK ks k) k
theorem mem_insAt {α : Type} {l : List α} {i : Nat} {x y : α} : y ∈ insAt l i x ↔ y = x ∨ y ∈ l := by
  have h : y ∈ l ↔ y ∈ l.take i ∨ y ∈ l.drop i := by
    rw [← List.mem_append, List.take_append_drop]
  simp only [insAt, List.mem_append, List.mem_singleton, h]
  constructor
  · rintro ((h | h) | h)
    · exact .inr (.inl h)
    · exact .inl h
    · exact .inr (.inr h)
  · rintro (h | h | h)
    · exact .inl (.inr h)
    · exact .inl (.inl h)
    · exact .inr h
theorem mem_insK {ks : List Kn} {k x : Kn} : x ∈ insK ks k ↔ x = k ∨ x ∈ ks := mem_insAt
theorem insK_sorted {ks : List Kn} {k : Kn} (hs : ks.Pairwise Lt) (hn : ∀ x ∈ ks, ¬ x.bare = k.bare) : (insK ks k).Pairwise Lt := by
  have hp := posK_iff (k := k) hs
  have e := List.take_append_drop (posK ks k) ks
  unfold insK insAt
  rw [← e, List.pairwise_append] at hs
  obtain ⟨h1, h2, h3⟩ := hs
  have hl : ∀ x ∈ ks.take (posK ks k), Lt x k := by
    intro x hx
    obtain ⟨j, hj, hjx⟩ := List.mem_take_iff_getElem.1 hx
    exact (hp j x (by rw [List.getElem?_eq_getElem (by omega), hjx])).2 (by omega)
  have hr : ∀ x ∈ ks.drop (posK ks k), Lt k x := by
    intro x hx
    obtain ⟨j, hj, hjx⟩ := List.mem_drop_iff_getElem.1 hx
    have hge := (hp (posK ks k + j) x (by rw [List.getElem?_eq_getElem (by omega), hjx]))
    have hnl : ¬ Lt x k := fun h => by have := hge.1 h; omega
    rcases Lt.total (hn x (List.mem_of_mem_drop hx)) with h | h
    · exact absurd h hnl
    · exact h
  rw [List.pairwise_append, List.pairwise_append]
  refine ⟨⟨h1, List.pairwise_singleton _ _, fun a ha b hb => ?_⟩, h2, fun a ha b hb => ?_⟩
  · simp at hb; rw [hb]; exact hl a ha
  · rcases List.mem_append.1 ha with ha | ha
    · exact h3 a ha b hb
    · simp at ha; rw [ha]; exact hr b hb

abbrev St := List Kn × List (Int × Int × Int)
def stepK (s : St) (k : Kn) : St × Int :=
  if k.valid = false then (s, 1) else if k.bare ∈ s.2 then (s, 9) else ((insK s.1 k, s.2 ++ [k.bare]), 0)
theorem stepK_inv {s : St} (h : Inv s.1 s.2) (k : Kn) : Inv (stepK s k).1.1 (stepK s k).1.2 := by
  unfold stepK
  split
  · exact h
  · split
    · exact h
    · rename_i hv hu
      have hn : ∀ x ∈ s.1, ¬ x.bare = k.bare := fun x hx e => hu ((h.used _).2 ⟨x, hx, e⟩)
      refine ⟨insK_sorted h.sorted hn, fun u => ?_, fun x hx => ?_⟩
      · simp only [List.mem_append, List.mem_singleton, h.used]
        constructor
        · rintro (⟨x, hx, e⟩ | rfl)
          · exact ⟨x, mem_insK.2 (.inr hx), e⟩
          · exact ⟨k, mem_insK.2 (.inl rfl), rfl⟩
        · rintro ⟨x, hx, e⟩
          rcases mem_insK.1 hx with rfl | hx
          · exact .inr e.symm
          · exact .inl ⟨x, hx, e⟩
      · rcases mem_insK.1 hx with rfl | hx
        · simpa using hv
        · exact h.valid x hx
/-- All acts of a list, one after the other; and the errors. -/
def runK : St → List Kn → St × List Int
  | s, [] => (s, [])
  | s, k :: l => ((runK (stepK s k).1 l).1, (stepK s k).2 :: (runK (stepK s k).1 l).2)
theorem runK_inv : ∀ (l : List Kn) {s : St}, Inv s.1 s.2 → Inv (runK s l).1.1 (runK s l).1.2
  | [], _, h => h
  | k :: l, _, h => runK_inv l (stepK_inv h k)
theorem runK_snoc : ∀ (l : List Kn) (s : St) (k : Kn), runK s (l ++ [k]) = ((stepK (runK s l).1 k).1, (runK s l).2 ++ [(stepK (runK s l).1 k).2])
  | [], s, k => rfl
  | x :: l, s, k => by
    simp only [List.cons_append, runK, runK_snoc l]
theorem runK_len : ∀ (l : List Kn) (s : St), (runK s l).2.length = l.length
  | [], _ => rfl
  | k :: l, s => by simp [runK, runK_len l]
theorem stepK_len (s : St) (k : Kn) : (stepK s k).1.1.length ≤ s.1.length + 1 := by
  unfold stepK
  split
  · exact Nat.le_succ _
  · split
    · exact Nat.le_succ _
    · show (insK s.1 k).length ≤ _
      unfold insK
      rw [insAt_len _ _ _ (posK_le _ _)]
      omega
theorem runK_size : ∀ (l : List Kn) (s : St), (runK s l).1.1.length ≤ s.1.length + l.length
  | [], _ => by simp [runK]
  | k :: l, s => by
    have h1 := runK_size l (stepK s k).1
    have h2 := stepK_len s k
    simp only [runK, List.length_cons]
    omega
end Go.Proofs.Ytfemjcbhgfhbjaa
