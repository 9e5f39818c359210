/-
  What the laws say, without the program.
-/
import Derived.Test.YtfemjcbhgfhbjaaLawSince
namespace Go.Proofs.Ytfemjcbhgfhbjaa

theorem Lt.asymm {a b : Kn} (h : Lt a b) : ¬ Lt b a := fun k => Lt.irrefl a (h.trans k)
/-- Two lists in strict order with the same elements are equal. -/
theorem sorted_ext : ∀ {l r : List Kn}, l.Pairwise Lt → r.Pairwise Lt → (∀ x, x ∈ l ↔ x ∈ r) → l = r
  | [], [], _, _, _ => rfl
  | [], y :: r, _, _, h => by have := (h y).2 (by simp); cases this
  | x :: l, [], _, _, h => by have := (h x).1 (by simp); cases this
  | x :: l, y :: r, hl, hr, h => by
    rw [List.pairwise_cons] at hl hr
    have hxy : x = y := by
      rcases List.mem_cons.1 ((h x).1 (by simp)) with e | hx
      · exact e
      · rcases List.mem_cons.1 ((h y).2 (by simp)) with e | hy
        · exact e.symm
        · exact absurd (hr.1 x hx) (hl.1 y hy).asymm
    subst hxy
    congr 1
    refine sorted_ext hl.2 hr.2 (fun z => ?_)
    constructor
    · intro hz
      rcases List.mem_cons.1 ((h z).1 (by simp [hz])) with e | hz'
      · subst e; exact absurd (hl.1 z hz) (Lt.irrefl z)
      · exact hz'
    · intro hz
      rcases List.mem_cons.1 ((h z).2 (by simp [hz])) with e | hz'
      · subst e; exact absurd (hr.1 z hz) (Lt.irrefl z)
      · exact hz'

/-- The acts of a list that were added: with their errors. -/
def okOf (ls : List Kn) (es : List Int) : List Kn := ((ls.zip es).filter fun x => x.2 == 0).map (·.1)
theorem okOf_cons (k : Kn) (ls : List Kn) (e : Int) (es : List Int) : okOf (k :: ls) (e :: es) = if e = 0 then k :: okOf ls es else okOf ls es := by
  by_cases h : e = 0 <;> simp [okOf, h]

theorem stepK_err (s : St) (k : Kn) : (stepK s k).2 = if k.valid = false then 1 else if k.bare ∈ s.2 then 9 else 0 := by
  unfold stepK
  split
  · rfl
  · split <;> rfl
theorem stepK_same {s : St} {k : Kn} (h : (stepK s k).2 ≠ 0) : (stepK s k).1 = s := by
  unfold stepK at h ⊢
  split
  · rfl
  · split
    · rfl
    · rename_i h1 h2
      simp [h1, h2] at h
theorem stepK_ins {s : St} {k : Kn} (h : (stepK s k).2 = 0) : (stepK s k).1 = (insK s.1 k, s.2 ++ [k.bare]) ∧ k.valid = true ∧ ¬ k.bare ∈ s.2 := by
  unfold stepK at h ⊢
  split at h
  · simp at h
  · split at h
    · simp at h
    · rename_i h1 h2
      have hv : k.valid = true := by simpa using h1
      rw [if_neg h1, if_neg h2]
      exact ⟨rfl, hv, h2⟩

/-- What is in the history: what was there, and what was added without an error. -/
theorem run_mem : ∀ (ls : List Kn) (s : St) (x : Kn), x ∈ (runK s ls).1.1 ↔ x ∈ s.1 ∨ x ∈ okOf ls (runK s ls).2
  | [], s, x => by simp [runK, okOf]
  | k :: ls, s, x => by
    simp only [runK, okOf_cons]
    rw [run_mem ls]
    by_cases h : (stepK s k).2 = 0
    · rw [if_pos h, (stepK_ins h).1]
      simp only [mem_insK, List.mem_cons, or_assoc, or_left_comm]
    · rw [if_neg h, stepK_same h]

theorem insK_perm (ks : List Kn) (k : Kn) (p : Kn → Bool) : ((insK ks k).filter p).length = (ks.filter p).length + if p k then 1 else 0 := by
  unfold insK insAt
  have e := List.take_append_drop (posK ks k) ks
  have h : (ks.filter p).length = ((ks.take (posK ks k)).filter p).length + ((ks.drop (posK ks k)).filter p).length := by
    rw [← List.length_append, ← List.filter_append, e]
  rw [List.filter_append, List.filter_append, List.length_append, List.length_append, h]
  cases hp : p k <;> simp [hp] <;> omega
theorem run_count (p : Kn → Bool) : ∀ (ls : List Kn) (s : St), ((runK s ls).1.1.filter p).length = (s.1.filter p).length + ((okOf ls (runK s ls).2).filter p).length
  | [], s => by simp [runK, okOf]
  | k :: ls, s => by
    simp only [runK, okOf_cons]
    rw [run_count p ls]
    by_cases h : (stepK s k).2 = 0
    · rw [if_pos h, (stepK_ins h).1]
      show ((insK s.1 k).filter p).length + _ = _
      rw [insK_perm, List.filter_cons]
      cases hp : p k <;> simp <;> omega
    · rw [if_neg h, stepK_same h]
theorem atK_filter {ks : List Kn} (hs : ks.Pairwise Lt) (n : Int) : atK ks n = ks.filter fun k => decide (k.d ≤ n) := by
  induction ks with
  | nil => rfl
  | cons y ks ih =>
    rw [List.pairwise_cons] at hs
    unfold atK at ih ⊢
    rw [List.takeWhile_cons, List.filter_cons, ih hs.2]
    by_cases hy : y.d ≤ n
    · simp [hy]
    · simp only [hy, decide_false, Bool.false_eq_true, if_false]
      symm
      rw [List.filter_eq_nil_iff]
      intro x hx
      have := hs.1 x hx
      rw [Lt_iff] at this
      simp
      omega

/-- Acts whose valid ones have different places. -/
def Apt (us : List (Int × Int × Int)) (ls : List Kn) : Prop := (ls.filter (·.valid)).Pairwise (fun a b => ¬ a.bare = b.bare) ∧ ∀ k ∈ ls, k.valid = true → ¬ k.bare ∈ us
theorem run_apt : ∀ (ls : List Kn) (s : St), Apt s.2 ls → okOf ls (runK s ls).2 = ls.filter (·.valid)
  | [], s, _ => rfl
  | k :: ls, s, ⟨h1, h2⟩ => by
    simp only [runK, okOf_cons]
    cases hv : k.valid with
    | false =>
      have he : (stepK s k).2 = 1 := by rw [stepK_err, if_pos hv]
      have hne : ¬ (stepK s k).2 = 0 := by rw [he]; decide
      rw [if_neg hne, stepK_same hne, List.filter_cons, hv]
      simp only [Bool.false_eq_true, if_false]
      rw [List.filter_cons, hv] at h1
      exact run_apt ls s ⟨by simpa using h1, fun x hx => h2 x (by simp [hx])⟩
    | true =>
      have hn : ¬ k.bare ∈ s.2 := h2 k (by simp) hv
      have he : (stepK s k).2 = 0 := by rw [stepK_err, if_neg (by simp [hv]), if_neg hn]
      rw [if_pos he, (stepK_ins he).1, List.filter_cons, hv]
      simp only [if_true]
      congr 1
      rw [List.filter_cons, hv] at h1
      simp only [if_true, List.pairwise_cons] at h1
      refine run_apt ls _ ⟨h1.2, fun x hx hxv => ?_⟩
      simp only [List.mem_append, List.mem_singleton, not_or]
      exact ⟨h2 x (by simp [hx]) hxv, fun e => h1.1 x (List.mem_filter.2 ⟨hx, hxv⟩) e.symm⟩
/-- Without ErrTwice the valid acts have different places. -/
theorem apt_of : ∀ (ls : List Kn) (s : St), (∀ e ∈ (runK s ls).2, e ≠ 9) → Apt s.2 ls
  | [], s, _ => ⟨List.Pairwise.nil, by simp⟩
  | k :: ls, s, h => by
    simp only [runK, List.mem_cons, forall_eq_or_imp] at h
    have ih := apt_of ls _ h.2
    cases hv : k.valid with
    | false =>
      have hne : ¬ (stepK s k).2 = 0 := by rw [stepK_err, if_pos hv]; decide
      rw [stepK_same hne] at ih
      refine ⟨by rw [List.filter_cons, hv]; simpa using ih.1, fun x hx hxv => ?_⟩
      rcases List.mem_cons.1 hx with rfl | hx
      · rw [hv] at hxv; cases hxv
      · exact ih.2 x hx hxv
    | true =>
      have hn : ¬ k.bare ∈ s.2 := fun hm => h.1 (by rw [stepK_err, if_neg (by simp [hv]), if_pos hm])
      have he : (stepK s k).2 = 0 := by rw [stepK_err, if_neg (by simp [hv]), if_neg hn]
      rw [(stepK_ins he).1] at ih
      have h3 : ∀ x ∈ ls, x.valid = true → ¬ x.bare ∈ s.2 ∧ ¬ x.bare = k.bare := fun x hx hxv => by
        have := ih.2 x hx hxv
        simpa using this
      refine ⟨?_, fun x hx hxv => ?_⟩
      · rw [List.filter_cons, hv]
        simp only [if_true, List.pairwise_cons]
        exact ⟨fun x hx e => (h3 x (List.mem_filter.1 hx).1 (List.mem_filter.1 hx).2).2 e.symm, ih.1⟩
      · rcases List.mem_cons.1 hx with rfl | hx
        · exact hn
        · exact (h3 x hx hxv).1
theorem Apt.reverse {ls : List Kn} (h : Apt [] ls) : Apt [] ls.reverse := by
  refine ⟨?_, by simp⟩
  rw [List.filter_reverse, List.pairwise_reverse]
  exact h.1.imp (fun h e => h e.symm)
/-- HistoryArrives. -/
theorem arrives_law (ls : List Kn) (h : ∀ e ∈ (runK ([], []) ls).2, e ≠ 9) : (runK ([], []) ls.reverse).1.1 = (runK ([], []) ls).1.1 := by
  have ha := apt_of ls ([], []) h
  refine sorted_ext (run_sorted _) (run_sorted _) (fun x => ?_)
  rw [run_mem, run_mem, run_apt _ _ ha, run_apt _ _ (Apt.reverse ha)]
  simp
theorem same_refl : ∀ (l : List Kn), sameK l l = true
  | [] => rfl
  | k :: l => by simp [sameK, eqv_refl, same_refl l]
theorem KSl.of_owns' {w : World} {base n : Nat} {v : Value} {ks : List Kn} (hn : ks.length = n) (h : w.ownsRow base 56 49 v n (flat ks)) : ∃ ao c, v = .slice ao n c ∧ KSl w ao ks := by
  subst hn
  exact KSl.of_owns h
section
variable {H : Type} {enc : TypeId × Value → H} {w : World} {base : Nat} {spare : Nat → Bool} {held : Bool}
theorem max_len {ao : Option Addr} {len cap : Nat} {d : DataW H} {ps : List MemPlace} (h : DataW.Trod enc Try.prog w base spare held 22 (.slice ao len cap) d ps) : len ≤ 9223372036854775807 := by
  obtain ⟨fuel, hf⟩ := h
  rcases Deep.open_slice Try.underlying22 hf with ⟨hcs, _⟩ | ⟨a, l, c, m, n, D, Pl, hcs, _, hlc, hcm, _⟩
  · simp [Value.cells] at hcs
    omega
  · simp [Value.cells] at hcs
    unfold maxLen at hcm
    omega
end
end Go.Proofs.Ytfemjcbhgfhbjaa
