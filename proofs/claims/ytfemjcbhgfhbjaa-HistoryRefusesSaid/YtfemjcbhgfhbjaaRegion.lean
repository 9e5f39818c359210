/-
  A region that draws its order: operations that only make memory, in any order, then the others in theirs.
  Each operation of the first part is shown once, from whatever world extends the first one.
-/
import Derived.Test.YtfemjcbhgfhbjaaBase
import Derived.Deep.QuietTactic
import Derived.BigQuiet
namespace Go.Proofs.Ytfemjcbhgfhbjaa
open Go.RowKit

/-- Does operation j wait for i, by an edge of its own? -/
def dir (ops : Array Oper) (i j : Nat) : Bool := ((ops[j]?).map (·.after.any fun e => Region.binds .any e && e.on == i)).getD false
/-- .. or through others? -/
def anc (ops : Array Oper) : Nat → Nat → Nat → Bool
  | 0, _, _ => false
  | n + 1, i, j => dir ops i j || (List.range ops.size).any fun k => dir ops k j && anc ops n i k
/-- From h on each operation waits for all before it. -/
def forced (ops : Array Oper) (h : Nat) : Bool :=
  (List.range ops.size).all fun j => decide (j < h) || (List.range j).all fun i => anc ops ops.size i j
/-- The slots that the first h operations write are different. -/
def dstsApart (ops : Array Oper) (h : Nat) : Bool :=
  (List.range h).all fun i => (List.range h).all fun j => decide (i = j) || (match (ops[i]?).bind (·.dst), (ops[j]?).bind (·.dst) with | some x, some y => x != y | _, _ => true)

def dstsIn (ops : Array Oper) (h n : Nat) : Bool := (List.range h).all fun i => match (ops[i]?).bind (·.dst) with | some d => decide (d < n) | none => false
theorem dstsIn_get {ops : Array Oper} {h n i : Nat} (H : dstsIn ops h n = true) (hi : i < h) : ∃ d, (ops[i]?).bind (·.dst) = some d ∧ d < n := by
  unfold dstsIn at H
  rw [List.all_eq_true] at H
  have := H i (List.mem_range.2 hi)
  split at this
  · rename_i d hd; exact ⟨d, hd, of_decide_eq_true this⟩
  · cases this

/-- No operation waits for a later one. -/
def backward (ops : Array Oper) : Bool := (List.range ops.size).all fun i => (List.range ops.size).all fun k => !dir ops k i || decide (k < i)

def isDst (ops : Array Oper) (h t : Nat) : Bool := (List.range h).any fun i => ((ops[i]?).bind (·.dst)) == some t

/-- The frame as it was, but for what the first h operations write. -/
structure FrameOk (ops : Array Oper) (h : Nat) (a0 a : Act) : Prop where
  size : a.tmps.size = a0.tmps.size
  defers : a.defers = a0.defers
  other : ∀ t, isDst ops h t = false → a.tmps[t]? = a0.tmps[t]?

theorem FrameOk.refl (ops : Array Oper) (h : Nat) (a : Act) : FrameOk ops h a a := ⟨rfl, rfl, fun _ _ => rfl⟩
theorem FrameOk.put {ops : Array Oper} {h : Nat} {a0 a : Act} (H : FrameOk ops h a0 a) {i : Nat} (hi : i < h) {o : Oper} (ho : ops[i]? = some o) (v : Value) : FrameOk ops h a0 (a.put o.dst v) := by
  cases hd : o.dst with
  | none => exact H
  | some d =>
    refine ⟨by simpa [Act.put] using H.size, H.defers, fun t ht => ?_⟩
    rw [← H.other t ht]
    simp only [Act.put]
    by_cases e : d = t
    · subst e
      have : isDst ops h d = true := by
        unfold isDst
        rw [List.any_eq_true]
        exact ⟨i, List.mem_range.2 hi, by simp [ho, hd]⟩
      rw [this] at ht
      cases ht
    · rw [Array.getElem?_setIfInBounds_ne e]

/-- A value in the slot of operation i. -/
def slotOf (ops : Array Oper) (a : Act) (i : Nat) : Value := (((ops[i]?).bind (·.dst)).map fun d => a.tmps.getD d undef).getD undef

/-- The block that a pointer or a slice points to. -/
def blk : Value → Option Nat
  | .pointer (some a) => some a.block
  | .slice (some a) _ _ => some a.block
  | _ => none
/-- The values of the operations that make memory point to different blocks. -/
def Apart (ops : Array Oper) (h : Nat) (fr : Nat → Bool) (l : Nat → Bool) (a : Act) : Prop :=
  ∀ i j, i < h → j < h → i ≠ j → l i = true → l j = true → fr i = true → fr j = true → ∀ p, blk (slotOf ops a i) = some p → blk (slotOf ops a j) = some p → False

section
variable {P : Program} {ops : Array Oper} {Q : Exit → Act → World → Prop}

theorem ready_iff {l : Array Bool} {i : Nat} : i ∈ Region.ready .any ops l ↔ i < ops.size ∧ l.getD i true = false ∧ ∀ k, dir ops k i = true → l.getD k false = true := by
  unfold Region.ready
  rw [List.mem_filter, List.mem_range]
  constructor
  · rintro ⟨h1, h2⟩
    rw [Bool.and_eq_true] at h2
    refine ⟨h1, by simpa using h2.1, fun k hk => ?_⟩
    have ho : ops[i]? = some ops[i] := Array.getElem?_eq_getElem h1
    have h3 := h2.2
    rw [ho] at h3
    simp only [Option.map_some, Option.getD_some, Array.all_eq_true'] at h3
    unfold dir at hk
    rw [ho] at hk
    simp only [Option.map_some, Option.getD_some, Array.any_eq_true'] at hk
    obtain ⟨e, he, hb⟩ := hk
    rw [Bool.and_eq_true] at hb
    have := h3 e he
    rw [hb.1] at this
    simp only [Bool.not_true, Bool.false_or] at this
    have hk' : e.on = k := by simpa using hb.2
    rw [← hk']
    exact this
  · rintro ⟨h1, h2, h3⟩
    refine ⟨h1, ?_⟩
    have ho : ops[i]? = some ops[i] := Array.getElem?_eq_getElem h1
    rw [Bool.and_eq_true]
    refine ⟨by simpa using h2, ?_⟩
    rw [ho]
    simp only [Option.map_some, Option.getD_some, Array.all_eq_true']
    intro e he
    by_cases hb : Region.binds .any e = true
    · rw [hb]
      simp only [Bool.not_true, Bool.false_or]
      refine h3 e.on ?_
      unfold dir
      rw [ho]
      simp only [Option.map_some, Option.getD_some, Array.any_eq_true']
      exact ⟨e, he, by simp [hb]⟩
    · simp [hb]

/-- What was listed had all that it waits for listed. -/
def Closed (ops : Array Oper) (l : Array Bool) : Prop := ∀ j, l.getD j false = true → ∀ k, dir ops k j = true → l.getD k false = true
theorem anc_listed {l : Array Bool} (hc : Closed ops l) : ∀ (n i j : Nat), (∀ k, dir ops k j = true → l.getD k false = true) → anc ops n i j = true → l.getD i false = true := by
  intro n
  induction n with
  | zero => intro i j _ h; cases h
  | succ n ih =>
    intro i j hj h
    unfold anc at h
    rw [Bool.or_eq_true] at h
    rcases h with h | h
    · exact hj i h
    · rw [List.any_eq_true] at h
      obtain ⟨k, _, hk⟩ := h
      rw [Bool.and_eq_true] at hk
      exact ih i k (fun m hm => hc k (hj k hk.1) m hm) hk.2

theorem getD_set {l : Array Bool} {i j : Nat} {d : Bool} (hi : i < l.size) : (l.setIfInBounds i true).getD j d = if j = i then true else l.getD j d := by
  simp only [Array.getD_eq_getD_getElem?, Array.getElem?_setIfInBounds]
  by_cases h : i = j
  · subst h; simp [hi]
  · have h' : ¬ j = i := fun e => h e.symm
    simp [h, h']

/-- The rule by an invariant over what was listed. -/
theorem wpAny_inv (I : Array Bool → Act → World → Prop)
    (step : ∀ l a w i, l.size = ops.size → I l a w → i ∈ Region.ready .any ops l → wpOp P ops Q i (I (l.setIfInBounds i true)) a w)
    (done : ∀ l a w, l.size = ops.size → I l a w → Region.ready .any ops l = [] → Q .normal a w) :
    ∀ (fuel : Nat) (l : Array Bool) (a : Act) (w : World), l.size = ops.size → (l.toList.count false ≤ fuel) → I l a w → wpAny P .any ops Q fuel l a w := by
  intro fuel
  induction fuel with
  | zero =>
    intro l a w hs hf hI
    have hr : Region.ready .any ops l = [] := by
      rw [List.eq_nil_iff_forall_not_mem]
      intro i hi
      obtain ⟨h1, h2, _⟩ := ready_iff.1 hi
      have hlt : i < l.size := by omega
      have hf' : l[i] = false := by simpa [Array.getD, hlt] using h2
      have hm : false ∈ l.toList := by rw [← hf']; simp
      have := List.count_pos_iff.2 hm
      omega
    exact ⟨hr, done l a w hs hI hr⟩
  | succ fuel ih =>
    intro l a w hs hf hI
    refine ⟨fun hr => done l a w hs hI hr, fun i hi => ?_⟩
    refine wpOp_mono (fun a' w' hI' => ih _ a' w' (by simpa using hs) ?_ hI') (step l a w i hs hI hi)
    obtain ⟨h1, h2, _⟩ := ready_iff.1 hi
    have hlt : i < l.size := by omega
    have hf' : l[i] = false := by simpa [Array.getD, hlt] using h2
    have : (l.setIfInBounds i true).toList.count false + 1 = l.toList.count false := by
      rw [Array.toList_setIfInBounds]
      rw [List.count_set (by simpa using hlt)]
      have e : l.toList[i]'(by simpa using hlt) = false := by simpa using hf'
      have hpos : 0 < l.toList.count false := List.count_pos_iff.2 (by rw [← e]; exact List.getElem_mem _)
      rw [e]
      simp only [beq_self_eq_true, if_true]
      have e2 : (true == false) = false := rfl
      rw [e2]
      simp only [Bool.false_eq_true, if_false]
      omega
    omega

theorem dir_lt {k i : Nat} (hb : backward ops = true) (hi : i < ops.size) (hd : dir ops k i = true) : k < i ∨ ops.size ≤ k := by
  rcases Nat.lt_or_ge k ops.size with hk | hk
  · unfold backward at hb
    rw [List.all_eq_true] at hb
    have := hb i (List.mem_range.2 hi)
    rw [List.all_eq_true] at this
    have := this k (List.mem_range.2 hk)
    rw [hd] at this
    exact Or.inl (by simpa using this)
  · exact Or.inr hk
/-- Where nothing is ready, all has been listed. -/
theorem all_listed {l : Array Bool} (hb : backward ops = true) (hin : ∀ i, i < ops.size → ∀ k, dir ops k i = true → k < ops.size) (hr : Region.ready .any ops l = []) (hs : l.size = ops.size) : ∀ i, i < ops.size → l.getD i false = true := by
  intro i
  induction i using Nat.strongRecOn with
  | _ i ih =>
    intro hi
    cases hl : l.getD i false with
    | true => rfl
    | false =>
      have hlt : i < l.size := by omega
      have : i ∈ Region.ready .any ops l := ready_iff.2 ⟨hi, by simpa [Array.getD, hlt] using hl, fun k hk => by
        rcases dir_lt hb hi hk with h | h
        · exact ih k h (by omega)
        · have := hin i hi k hk; omega⟩
      rw [hr] at this
      cases this
def inside (ops : Array Oper) : Bool := ops.all fun o => o.after.all fun e => decide (e.on < ops.size)
theorem dir_in (h : inside ops = true) : ∀ i, i < ops.size → ∀ k, dir ops k i = true → k < ops.size := by
  intro i hi k hk
  unfold dir at hk
  have ho : ops[i]? = some ops[i] := Array.getElem?_eq_getElem hi
  rw [ho] at hk
  simp only [Option.map_some, Option.getD_some, Array.any_eq_true'] at hk
  obtain ⟨e, he, hb⟩ := hk
  rw [Bool.and_eq_true] at hb
  unfold inside at h
  rw [Array.all_eq_true'] at h
  have := h ops[i] (Array.getElem_mem hi)
  rw [Array.all_eq_true'] at this
  have := of_decide_eq_true (this e he)
  have hk' : e.on = k := by simpa using hb.2
  omega

/-- THE RULE. -/
theorem wp_region_ext {id : Nat} {a0 : Act} {w0 : World} (hm : P.follows .mixedOrders = true) (h : Nat) (hh : h ≤ ops.size) (hf : forced ops h = true) (hd : dstsApart ops h = true) (hn : dstsIn ops h a0.tmps.size = true) (hbk : backward ops = true) (hin : inside ops = true)
    (V : Nat → Value → World → Prop) (fr : Nat → Bool) (isIn : ∀ i, i < h → fr i = true → ∀ v w p, V i v w → blk v = some p → p < w.heap.size) (stable : ∀ i, i < h → ∀ v w w', V i v w → Ext w w' → V i v w')
    (head : ∀ i, i < h → ∀ a w, FrameOk ops h a0 a → Ext w0 w → (∀ k, k < h → dir ops k i = true → V k (slotOf ops a k) w) →
      ∀ K : Act → World → Prop, (∀ a' w' v, Ext w w' → V i v w' → (fr i = true → ∀ p, blk v = some p → w.heap.size ≤ p) → a' = a.put (((ops[i]?).bind (·.dst))) v → K a' w') → wpOp P ops Q i K a w)
    (tail : ∀ a w, FrameOk ops h a0 a → Ext w0 w → (∀ k, k < h → V k (slotOf ops a k) w) → Apart ops h fr (fun _ => true) a → wpList P ops Q (ops.toList.drop h) a w) :
    (Code.region id ops true).wp P Q a0 w0 := by
  replace tail : ∀ a w, FrameOk ops h a0 a → Ext w0 w → (∀ k, k < h → V k (slotOf ops a k) w) → Apart ops h fr (fun _ => true) a → wpOps P ops Q (List.range' h (ops.size - h)) a w := by
    intro a w h1 h2 h3 h4
    have := tail a w h1 h2 h3 h4
    rw [← wpOps_eq_wpList (ops.toList.drop h) h (by intro j; simp)] at this
    simpa using this
  refine wp_region_any hm ?_
  refine wpAny_inv (fun l a w => Closed ops l ∧
    (((∀ j, h ≤ j → l.getD j false = false) ∧ FrameOk ops h a0 a ∧ Ext w0 w ∧ (∀ k, k < h → l.getD k false = true → V k (slotOf ops a k) w) ∧ Apart ops h fr (l.getD · false) a) ∨
     ∃ m, h < m ∧ m ≤ ops.size ∧ (∀ j, j < m → l.getD j false = true) ∧ (∀ j, m ≤ j → l.getD j false = false) ∧ wpOps P ops Q (List.range' m (ops.size - m)) a w)) ?_ ?_ ops.size _ a0 _ (by simp) (by simp) ?_
  · -- a step
    rintro l a w i hs ⟨hc, hI⟩ hi
    obtain ⟨h1, h2, h3⟩ := ready_iff.1 hi
    have hlt : i < l.size := by omega
    have hc' : Closed ops (l.setIfInBounds i true) := by
      intro j hj k hk
      rw [getD_set hlt] at hj ⊢
      split
      · rfl
      · split at hj
        · rename_i e; subst e; exact h3 k hk
        · exact hc j hj k hk
    rcases hI with ⟨hno, hfr, hext, hV, hA⟩ | ⟨m, hm1, hm2, hall, hnone, hwp⟩
    · by_cases hih : i < h
      · refine head i hih a w hfr hext (fun k hk hdk => hV k hk (h3 k hdk)) _ ?_
        rintro a' w' v hxt hv hfresh rfl
        have ho : ops[i]? = some ops[i] := Array.getElem?_eq_getElem h1
        have hown : slotOf ops (a.put ((ops[i]?).bind (·.dst)) v) i = v := by
          obtain ⟨d, hdd, hds⟩ := dstsIn_get hn hih
          have hds' : d < a.tmps.size := by rw [hfr.size]; exact hds
          simp [slotOf, hdd, Act.put, hds']
        have hoth : ∀ k, k < h → k ≠ i → slotOf ops (a.put ((ops[i]?).bind (·.dst)) v) k = slotOf ops a k := by
          intro k hk e
          unfold slotOf
          cases hdk : (ops[k]?).bind (·.dst) with
          | none => rfl
          | some y =>
            cases hdi : (ops[i]?).bind (·.dst) with
            | none => rfl
            | some x =>
              have hne : x ≠ y := by
                unfold dstsApart at hd
                rw [List.all_eq_true] at hd
                have := hd i (List.mem_range.2 hih)
                rw [List.all_eq_true] at this
                have := this k (List.mem_range.2 hk)
                rw [hdi, hdk, Bool.or_eq_true] at this
                rcases this with this | this
                · exact absurd (of_decide_eq_true this).symm e
                · simpa using this
              simp [Act.put, Array.getElem?_setIfInBounds_ne hne]
        refine ⟨hc', Or.inl ⟨fun j hj => ?_, ?_, hext.trans hxt, fun k hk hl => ?_, ?_⟩⟩
        · rw [getD_set hlt, if_neg (by omega)]; exact hno j hj
        · rw [ho]; exact hfr.put hih ho v
        · by_cases e : k = i
          · subst e
            rw [hown]
            exact hv
          · rw [getD_set hlt, if_neg e] at hl
            rw [hoth k hk e]
            exact stable k hk _ _ _ (hV k hk hl) hxt
        · intro x y hx hy hxy hlx hly hfx hfy p hpx hpy
          simp only [getD_set hlt] at hlx hly
          by_cases ex : x = i
          · subst ex
            have ey : y ≠ x := fun e => hxy e.symm
            rw [if_neg ey] at hly
            rw [hown] at hpx
            rw [hoth y hy ey] at hpy
            have h4 := hfresh hfx p hpx
            have h5 := isIn y hy hfy _ _ p (hV y hy hly) hpy
            omega
          · rw [if_neg ex] at hlx
            rw [hoth x hx ex] at hpx
            by_cases ey : y = i
            · subst ey
              rw [hown] at hpy
              have h4 := hfresh hfy p hpy
              have h5 := isIn x hx hfx _ _ p (hV x hx hlx) hpx
              omega
            · rw [if_neg ey] at hly
              rw [hoth y hy ey] at hpy
              exact hA x y hx hy hxy hlx hly hfx hfy p hpx hpy
      · -- the first of the tail
        have hall : ∀ j, j < i → l.getD j false = true := fun j hj => anc_listed hc ops.size j i h3 (by
          unfold forced at hf
          rw [List.all_eq_true] at hf
          have := hf i (List.mem_range.2 h1)
          rw [Bool.or_eq_true] at this
          rcases this with this | this
          · exact absurd (of_decide_eq_true this) hih
          · rw [List.all_eq_true] at this
            exact this j (List.mem_range.2 hj))
        have hie : i = h := by
          rcases Nat.lt_or_ge h i with hlt' | hge
          · have := hno h (Nat.le_refl _)
            rw [hall h hlt'] at this
            cases this
          · omega
        subst hie
        have hw := tail a w hfr hext (fun k hk => hV k hk (hall k hk)) (fun x y hx hy hxy _ _ => hA x y hx hy hxy (hall x hx) (hall y hy))
        obtain ⟨r, hr⟩ : ∃ r, ops.size - i = r + 1 := ⟨ops.size - i - 1, by omega⟩
        rw [hr, List.range'_succ, wpOps_cons] at hw
        refine wpOp_mono (fun a' w' hw' => ⟨hc', Or.inr ⟨i + 1, by omega, by omega, fun j hj => ?_, fun j hj => by rw [getD_set hlt, if_neg (by omega)]; exact hno j (by omega), ?_⟩⟩) hw
        · rw [getD_set hlt]
          split
          · rfl
          · exact hall j (by omega)
        · have : ops.size - (i + 1) = r := by omega
          rw [this]
          exact hw'
    · have hnot : ¬ i < m := fun hi' => by
        have := hall i hi'
        have e2 : l.getD i false = l.getD i true := by simp [Array.getD, hlt]
        rw [e2, h2] at this
        cases this
      have hall' : ∀ j, j < i → l.getD j false = true := fun j hj => anc_listed hc ops.size j i h3 (by
          unfold forced at hf
          rw [List.all_eq_true] at hf
          have := hf i (List.mem_range.2 h1)
          rw [Bool.or_eq_true] at this
          rcases this with this | this
          · exact absurd (of_decide_eq_true this) (by omega)
          · rw [List.all_eq_true] at this
            exact this j (List.mem_range.2 hj))
      have hie : i = m := by
        rcases Nat.lt_or_ge m i with hlt' | hge
        · have := hnone m (Nat.le_refl _)
          rw [hall' m hlt'] at this
          cases this
        · omega
      subst hie
      obtain ⟨r, hr⟩ : ∃ r, ops.size - i = r + 1 := ⟨ops.size - i - 1, by omega⟩
      rw [hr, List.range'_succ, wpOps_cons] at hwp
      refine wpOp_mono (fun a' w' hw' => ⟨hc', Or.inr ⟨i + 1, by omega, by omega, fun j hj => ?_, fun j hj => by rw [getD_set hlt, if_neg (by omega)]; exact hnone j (by omega), ?_⟩⟩) hwp
      · rw [getD_set hlt]
        split
        · rfl
        · exact hall j (by omega)
      · have : ops.size - (i + 1) = r := by omega
        rw [this]
        exact hw'
  · rintro l a w hs ⟨hc, hI⟩ hr
    have hall := all_listed hbk (dir_in hin) hr hs
    rcases hI with ⟨hno, hfr, hext, hV, hA⟩ | ⟨m, hm1, hm2, _, hnone, hwp⟩
    · have : ops.size - h = 0 := by
        rcases Nat.lt_or_ge h ops.size with hlt | hge
        · have := hno h (Nat.le_refl _)
          rw [hall h hlt] at this
          cases this
        · omega
      have hw := tail a w hfr hext (fun k hk => hV k hk (hall k (by omega))) (fun x y hx hy hxy _ _ => hA x y hx hy hxy (hall x (by omega)) (hall y (by omega)))
      rw [this] at hw
      exact hw
    · have : ops.size - m = 0 := by
        rcases Nat.lt_or_ge m ops.size with hlt | hge
        · have := hnone m (Nat.le_refl _)
          rw [hall m hlt] at this
          cases this
        · omega
      rw [this] at hwp
      exact hwp
  · refine ⟨fun j hj => ?_, Or.inl ⟨fun j _ => ?_, FrameOk.refl _ _ _, Ext.drew (Ext.refl w0), fun k _ hl => ?_, fun x y _ _ _ hl _ => ?_⟩⟩
    · exfalso; revert hj; simp [Array.getElem?_replicate]; split <;> simp
    · simp [Array.getElem?_replicate]; split <;> simp
    · exfalso; revert hl; simp [Array.getElem?_replicate]; split <;> simp
    · exfalso; revert hl; simp [Array.getElem?_replicate]; split <;> simp
end
theorem FrameOk.eval {ops : Array Oper} {h : Nat} {a0 a : Act} (H : FrameOk ops h a0 a) (t : Nat) (ht : isDst ops h t = false) : a.eval (.tmp t) = a0.eval (.tmp t) := by
  simp only [Act.eval, Array.getD_eq_getD_getElem?, H.other t ht]
theorem slotOf_eval {ops : Array Oper} {a : Act} {k d : Nat} (h : (ops[k]?).bind (·.dst) = some d) : slotOf ops a k = a.eval (.tmp d) := by
  simp only [slotOf, h, Option.map_some, Option.getD_some, Act.eval]
/-- The frame, written out. -/
theorem FrameOk.lit {ops : Array Oper} {h : Nat} {a0 a : Act} (H : FrameOk ops h a0 a) :
    a = ⟨((List.range a0.tmps.size).map fun t => cond (isDst ops h t) (a.tmps.getD t undef) (a0.tmps.getD t undef)).toArray, a0.defers⟩ := by
  obtain ⟨tm, df⟩ := a
  have hd := H.defers
  simp only at hd
  subst hd
  congr 1
  apply Array.ext_getElem?
  intro t
  by_cases ht : t < a0.tmps.size
  · have hs : t < tm.size := by have := H.size; simp only at this; omega
    simp only [List.getElem?_toArray, List.getElem?_map, List.getElem?_range ht, Option.map_some, Array.getElem?_eq_getElem hs]
    cases hi : isDst ops h t with
    | true => simp [hs]
    | false =>
      have := H.other t hi
      simp only [Array.getElem?_eq_getElem hs] at this
      simp [← this]
  · have hs : ¬ t < tm.size := by have := H.size; simp only at this; omega
    rw [Array.getElem?_eq_none (by omega), Array.getElem?_eq_none (by simp; omega)]
section
variable {P : Program} {ops : Array Oper} {Q : Exit → Act → World → Prop} {a : Act} {w : World} {K : Act → World → Prop} {o : Oper}
theorem wpOp_plain {i : Nat} (ho : ops[i]? = some o) (hg : o.guard = none) (h : o.wp P a w K Q) : wpOp P ops Q i K a w := by
  unfold wpOp
  rw [ho]
  simp only [Region.wanted, hg, if_true]
  exact Or.inl h
/-- A call of a Go function, by its contract. -/
theorem wp_call {f : FuncId} {xs : Array Operand} {ts : Array TypeId} (ho : o.op = .call { callee := .value (.func f), args := xs, argTypes := ts }) {args : Array Value} (hargs : xs.map a.eval = args)
    (hbody : (P.funcs[f]?).map (fun fn => (fn.name == "runtime.NumGoroutine", fn.body.isNone)) = some (false, false)) {R : Ending → World → Prop} (h : Calls P f args w R) (hR : ∀ e w', R e w' → ∃ v, e = .returned v ∧ K (a.put o.dst v) w') : o.wp P a w K Q := by
  have hrun : (execOp a.eval o).run P w = .ok (.enter f args) w := by
    cases hq : P.funcs[f]? with
    | none => rw [hq] at hbody; cases hbody
    | some fn =>
      rw [hq] at hbody
      simp only [Option.map_some, Option.some.injEq, Prod.mk.injEq] at hbody
      unfold execOp
      rw [ho]
      simp only [resolve, hargs, Act.eval, Deferred.ofValue, Sem.run_bind, Sem.run_pure, Result.andThen_ok, invoke, callFunc, Array.empty_append, Array.append_empty]
      have h1 : ¬ fn.name = "runtime.NumGoroutine" := by simpa using hbody.1
      have h2 : ¬ fn.body = none := fun h => by rw [h] at hbody; simp at hbody
      simp [program, Sem.run, hq, h1, h2]
  unfold Oper.wp
  rw [hrun, Oper.upon_enter]
  refine h.mono fun e w' hr => ?_
  obtain ⟨v, rfl, hk⟩ := hR e w' hr
  exact hk
end
/-- A callee that leaves the world alone, in a quiet region. -/
theorem quiet_same {P : Program} {f : FuncId} {args : Array Value} {w : World} {n : Nat} {v : Value}
    (h : Calls P f args (w.drewN n) fun e w' => e = .returned v ∧ w.drewN n = w') : Calls P f args (w.drewN n) fun e w'' => e = .returned v ∧ ∃ m, w'' = w.drewN m :=
  h.mono fun _ _ ⟨he, hm⟩ => ⟨he, n, hm.symm⟩
theorem Ext.drewN {a w : World} (h : Ext a w) (n : Nat) : Ext a (w.drewN n) := ⟨h.os, h.tape, h.output, h.size, h.block⟩
/-! ### A call that only makes memory, in the middle of a walk: the world behind it is 'w.more e'. -/
structure Mo where
  bs : Array Obj
  n : Nat
@[go_sem] theorem forall_mo (p : Prop) : (∀ _ : Mo, p) ↔ p := ⟨fun h => h ⟨#[], 0⟩, fun h _ => h⟩
def more (w : World) (e : Mo) : World := { w with heap := w.heap ++ e.bs, drawn := e.n }
theorem Ext.more {w w' : World} (h : Ext w w') : ∃ e, w' = more w e := by
  refine ⟨⟨w'.heap.extract w.heap.size w'.heap.size, w'.drawn⟩, ?_⟩
  obtain ⟨heap, tape, drawn, os, output⟩ := w'
  obtain ⟨h1, h2, h3, h4, h5⟩ := h
  simp only at h1 h2 h3 h4 h5
  subst h1 h2 h3
  simp only [Go.Proofs.Ytfemjcbhgfhbjaa.more, World.mk.injEq, and_true]
  apply Array.ext_getElem?
  intro i
  rw [Array.getElem?_append]
  split
  · rename_i hi; exact h5 i hi
  · rename_i hi
    rw [Array.getElem?_extract]
    split
    · congr 1; omega
    · rw [Array.getElem?_eq_none]; omega
theorem more_ext (w : World) (e : Mo) : Ext w (more w e) :=
  ⟨rfl, rfl, rfl, by simp [more], fun k hk => by simp only [more]; rw [Array.getElem?_append_left hk]⟩
theorem more_more (w : World) (e f : Mo) : more (more w e) f = more w ⟨e.bs ++ f.bs, f.n⟩ := by simp [more, Array.append_assoc]
@[go_sem] theorem size_more (w : World) (e : Mo) : (more w e).heap.size = w.heap.size + e.bs.size := by simp [more]
theorem block_of_cell {w : World} {a : Addr} (h : (w.cell? a).isSome = true) : a.block < w.heap.size := by
  obtain ⟨v, hv⟩ := Option.isSome_iff_exists.1 h
  exact block_lt_of_cell hv
@[go_sem] theorem cell?_more (w : World) (e : Mo) (a : Addr) (h : (w.cell? a).isSome = true) : (more w e).cell? a = w.cell? a := (more_ext w e).cell (block_of_cell h)
@[go_sem] theorem frozen?_more (w : World) (e : Mo) (a : Addr) (h : (w.cell? a).isSome = true) : (more w e).frozen? a = w.frozen? a := (more_ext w e).frozen (block_of_cell h)
@[go_sem] theorem hasK_more (w : World) (e : Mo) (b o : Nat) (h : HasK w b o) : HasK (more w e) b o := by
  obtain ⟨k, hk⟩ := h
  exact (hk.ext (more_ext w e)).has
@[go_sem] theorem kAt_more (w : World) (e : Mo) (b o : Nat) (h : HasK w b o) : kAt (more w e) b o = kAt w b o := by
  obtain ⟨k, hk⟩ := h
  rw [(hk.ext (more_ext w e)).eq, hk.eq]
/-- A region that draws its order, whose operations read and whose callees only make memory. -/
theorem wp_region_more {P : Program} {id : Nat} {Q : Exit → Act → World → Prop} {a : Act} {w : World} {l : List Oper} (hm : P.follows .mixedOrders = true) (hB : Region.lexB .any l.toArray = true)
    (h : wpQuiet P l.toArray (fun w' => ∃ n, w' = more w n) (fun a' => ∀ w', (∃ n, w' = more w n) → Q .normal a' w') l a) : (Code.region id l.toArray true).wp P Q a w :=
  wp_region_quiet (C := fun w' => ∃ n, w' = more w n) hm hB (Ext.more (Ext.drew (Ext.refl w))) (by simpa using h)
theorem quiet_ext {P : Program} {f : FuncId} {args : Array Value} {w : World} {n : Mo} {v : Value}
    (h : Calls P f args (more w n) fun e w' => e = .returned v ∧ Ext (more w n) w') : Calls P f args (more w n) fun e w'' => e = .returned v ∧ ∃ m, w'' = more w m :=
  h.mono fun _ _ ⟨he, hm⟩ => ⟨he, by obtain ⟨e, rfl⟩ := hm.more; exact ⟨_, more_more _ _ _⟩⟩
theorem quiet_idle {P : Program} {f : FuncId} {args : Array Value} {w : World} {n : Mo} {v : Value}
    (h : Calls P f args (more w n) fun e w' => e = .returned v ∧ more w n = w') : Calls P f args (more w n) fun e w'' => e = .returned v ∧ ∃ m, w'' = more w m :=
  h.mono fun _ _ ⟨he, hm⟩ => ⟨he, n, hm.symm⟩
theorem cell_in_more {w : World} {a : Addr} {v : Value} (h : w.cell? a = some v) (e : Mo) : (more w e).cell? a = some v := by rw [cell?_more w e a (by rw [h]; rfl)]; exact h
theorem KAt.more {w : World} {b o : Nat} {k : Kn} (h : KAt w b o k) (e : Mo) : KAt (more w e) b o k := h.ext (more_ext w e)
end Go.Proofs.Ytfemjcbhgfhbjaa
