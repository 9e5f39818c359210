/-
  What can be read as a slice of acts is one.
-/
import Derived.Test.YtfemjcbhgfhbjaaRows
import Derived.Test.YtfemjcbhgfhbjaaHeadC
import Derived.ProofKit
import Derived.OpenShut
import Derived.ChangeOld
import Derived.Deep.Slices
namespace Go.Proofs.Ytfemjcbhgfhbjaa
open Go.ChangeShapes Go.WideShapes Go.ChangeAt Go.RowKit

section
variable {H : Type} {enc : TypeId × Value → H} {P : Program} {w : World} {base : Nat} {spare : Nat → Bool} {held : Bool}

def tileFrom (P : Program) : List Field → Nat → Option Nat
  | [], o => some o
  | f :: r, o => if f.offset = o then tileFrom P r (o + P.cellsOf f.type) else none
/-- The fields lie one behind the other, at every depth. -/
def tiles (P : Program) : Nat → TypeId → Bool
  | 0, _ => false
  | n + 1, t => match P.underlying t with
    | some (.struct fs) => tileFrom P fs.toList 0 == some (P.cellsOf t) && fs.toList.all fun f => tiles P n f.type
    | some (.array _ _) => false
    | some _ => true
    | none => false
theorem tile_find : ∀ (fs : List Field) (o e : Nat), tileFrom P fs o = some e → ∀ j, o ≤ j → j < e → ∃ f ∈ fs, f.offset ≤ j ∧ j < f.offset + P.cellsOf f.type
  | [], o, e, h, j, h1, h2 => by simp [tileFrom] at h; omega
  | f :: r, o, e, h, j, h1, h2 => by
    unfold tileFrom at h
    split at h
    · rename_i ho
      by_cases hj : j < o + P.cellsOf f.type
      · exact ⟨f, by simp, by omega, by omega⟩
      · obtain ⟨g, hg, h3⟩ := tile_find r _ e h j (by omega) h2
        exact ⟨g, by simp [hg], h3⟩
    · cases h
theorem trod_one : ∀ (n fuel : Nat) (t : TypeId) (cs : List Value) (x : DataW H × List MemPlace), tiles P n t = true → DataW.trod enc P w base spare held fuel t cs = some x → ∀ v ∈ cs, v.oneCell' = true
  | 0, _, _, _, _, h, _ => by cases h
  | n + 1, fuel, t, cs, x, ht, h => by
    intro v hv
    unfold tiles at ht
    split at ht
    · rename_i fs hu
      rw [Bool.and_eq_true] at ht
      obtain ⟨xs, m, rfl, rfl, hl, hxl, hf⟩ := DataW.trod_struct hu h
      have h1 : tileFrom P fs.toList 0 = some (P.cellsOf t) := by simpa using ht.1
      obtain ⟨j, hj, hjv⟩ := List.getElem_of_mem hv
      obtain ⟨f, hfm, h2, h3⟩ := tile_find fs.toList 0 _ h1 j (Nat.zero_le _) (by omega)
      obtain ⟨i, hi, hif⟩ := List.getElem_of_mem hfm
      have hfi : fs[i]? = some f := by
        rw [Array.getElem?_eq_getElem (by simpa using hi)]
        simpa using hif
      have hr := hf i f hfi
      have hi2 : i < xs.length := by rw [hxl]; simpa using hi
      rw [List.getElem?_eq_getElem hi2] at hr
      have ht2 : tiles P n f.type = true := List.all_eq_true.1 ht.2 f hfm
      refine trod_one n m f.type _ _ ht2 hr v ?_
      rw [List.mem_take_iff_getElem]
      refine ⟨j - f.offset, ?_, ?_⟩
      · simp; omega
      · simp only [List.getElem_drop]
        rw [← hjv]
        congr 1
        omega
    · cases ht
    · rename_i d hs ha hu
      cases fuel with
      | zero => simp [DataW.trod] at h
      | succ m =>
        unfold DataW.trod at h
        rw [hu] at h
        split at h <;> first
          | (cases h; done)
          | (simp only [List.mem_singleton] at hv; subst hv; rfl)
          | (rename_i e; simp only [Option.some.injEq] at e; subst e; exact absurd rfl (hs _))
          | (rename_i e; simp only [Option.some.injEq] at e; subst e; exact absurd rfl (ha _ _))
    · cases ht
theorem cells56 : Try.prog.cellsOf 56 = 49 := by kernel_rfl
theorem cells9 : Try.prog.cellsOf 9 = 1 := by kernel_rfl
theorem cells54 : Try.prog.cellsOf 54 = 45 := by kernel_rfl
theorem tiles56 : tiles Try.prog 8 56 = true := by kernel_rfl

theorem open_kn {fuel : Nat} {cs : List Value} {x : DataW H × List MemPlace} (h : DataW.trod enc Try.prog w base spare held fuel 56 cs = some x) : ∃ k : Kn, cs = k.cl := by
  have hone := trod_one 8 fuel 56 cs x tiles56 h
  obtain ⟨xs, m, rfl, rfl, hl, hxl, hf⟩ := DataW.trod_struct Try.underlying56 h
  rw [cells56] at hl
  have hx : xs.length = 5 := hxl
  have g0 : DataW.trod enc Try.prog w base spare held m 3 ((cs.drop 0).take (Try.prog.cellsOf 3)) = xs[0]? := hf 0 _ rfl
  have g1 : DataW.trod enc Try.prog w base spare held m 3 ((cs.drop 1).take (Try.prog.cellsOf 3)) = xs[1]? := hf 1 _ rfl
  have g2 : DataW.trod enc Try.prog w base spare held m 3 ((cs.drop 2).take (Try.prog.cellsOf 3)) = xs[2]? := hf 2 _ rfl
  have g3 : DataW.trod enc Try.prog w base spare held m 3 ((cs.drop 3).take (Try.prog.cellsOf 3)) = xs[3]? := hf 3 _ rfl
  have g4 : DataW.trod enc Try.prog w base spare held m 54 ((cs.drop 4).take (Try.prog.cellsOf 54)) = xs[4]? := hf 4 _ rfl
  rw [List.getElem?_eq_getElem (by omega), cells3] at g0 g1 g2 g3
  rw [List.getElem?_eq_getElem (by omega), cells54] at g4
  obtain ⟨d, e0, _⟩ := DataW.trod_int Try.underlying3 g0
  obtain ⟨o, e1, _⟩ := DataW.trod_int Try.underlying3 g1
  obtain ⟨n, e2, _⟩ := DataW.trod_int Try.underlying3 g2
  obtain ⟨i, e3, _⟩ := DataW.trod_int Try.underlying3 g3
  obtain ⟨ys, m2, _, _, hl2, hyl, hf2⟩ := DataW.trod_struct Try.underlying54 g4
  have hy : ys.length = 9 := hyl
  have k0 : DataW.trod enc Try.prog w base spare held m2 3 ((((cs.drop 4).take 45).drop 0).take (Try.prog.cellsOf 3)) = ys[0]? := hf2 0 _ rfl
  have k1 : DataW.trod enc Try.prog w base spare held m2 9 ((((cs.drop 4).take 45).drop 1).take (Try.prog.cellsOf 9)) = ys[1]? := hf2 1 _ rfl
  have k2 : DataW.trod enc Try.prog w base spare held m2 3 ((((cs.drop 4).take 45).drop 2).take (Try.prog.cellsOf 3)) = ys[2]? := hf2 2 _ rfl
  rw [List.getElem?_eq_getElem (by omega), cells3] at k0 k2
  rw [List.getElem?_eq_getElem (by omega), cells9] at k1
  obtain ⟨kd, e4, _⟩ := DataW.trod_int Try.underlying3 k0
  obtain ⟨id, e5, _⟩ := DataW.trod_string Try.underlying9 k1
  obtain ⟨ad, e6, _⟩ := DataW.trod_int Try.underlying3 k2
  clear h g0 g1 g2 g3 g4 k0 k1 k2 hf hf2
  rcases cs with _ | ⟨c0, cs⟩
  · cases hl
  rcases cs with _ | ⟨c1, cs⟩
  · cases hl
  rcases cs with _ | ⟨c2, cs⟩
  · cases hl
  rcases cs with _ | ⟨c3, cs⟩
  · cases hl
  rcases cs with _ | ⟨c4, cs⟩
  · cases hl
  rcases cs with _ | ⟨c5, cs⟩
  · cases hl
  rcases cs with _ | ⟨c6, rest⟩
  · cases hl
  simp only [List.drop_zero, List.drop_succ_cons, List.take_succ_cons, List.take_zero, List.cons.injEq, and_true] at e0 e1 e2 e3 e4 e5 e6
  subst e0 e1 e2 e3 e4 e5 e6
  exact ⟨⟨d, o, n, i, kd, id, ad, rest, by simpa using hl, by
    rw [List.all_eq_true]
    intro v hv
    exact hone v (by simp [hv])⟩, rfl⟩

theorem list_of {α : Type} {p : Nat → α → Prop} : ∀ (n : Nat), (∀ i, i < n → ∃ k, p i k) → ∃ ks : List α, ks.length = n ∧ ∀ i k, ks[i]? = some k → p i k
  | 0, _ => ⟨[], rfl, fun i k h => by simp at h⟩
  | n + 1, h => by
    obtain ⟨ks, hl, hk⟩ := list_of n (fun i hi => h i (by omega))
    obtain ⟨x, hx⟩ := h n (by omega)
    refine ⟨ks ++ [x], by simp [hl], fun i k hi => ?_⟩
    by_cases c : i < ks.length
    · rw [List.getElem?_append_left c] at hi
      exact hk i k hi
    · rw [List.getElem?_append_right (by omega)] at hi
      obtain ⟨h1, h2⟩ := List.getElem?_eq_some_iff.1 hi
      simp at h1 h2
      have : i = n := by omega
      subst this
      rw [← h2]
      exact hx

/-- A slice of acts that can be read. -/
theorem open_ks {fuel : Nat} {ao : Option Addr} {len cap : Nat} {x : DataW H × List MemPlace} (h : DataW.trod enc Try.prog w base spare held fuel 22 [.slice ao len cap] = some x) : ∃ ks : List Kn, ks.length = len ∧ KSl w ao ks := by
  rcases Deep.open_slice Try.underlying22 h with ⟨hcs, _⟩ | ⟨a, len', cap', m, n, D, Pl, hcs, _, hlc, _, hm, _, hel⟩
  · simp only [List.cons.injEq, Value.slice.injEq, and_true] at hcs
    obtain ⟨rfl, rfl, rfl⟩ := hcs
    exact ⟨[], rfl, KSl.nil _ _⟩
  · simp only [List.cons.injEq, Value.slice.injEq, and_true] at hcs
    obtain ⟨rfl, rfl, rfl⟩ := hcs
    have hlm : len ≤ m := by rw [hm]; split <;> omega
    have hex : ∀ i, i < len → ∃ k : Kn, w.cells? base (a.add (i * 49)) 49 = some k.cl := by
      intro i hi
      obtain ⟨cs', h1, h2⟩ := hel i (by omega)
      rw [cells56] at h1
      obtain ⟨k, rfl⟩ := open_kn h2
      exact ⟨k, h1⟩
    obtain ⟨ks, hl, hk⟩ := list_of len hex
    refine ⟨ks, hl, ?_⟩
    intro i k hi
    have hcell := (World.cells?_some (hk i k hi)).2.2
    obtain ⟨b, off, spot⟩ := a
    have hsp : spot = none := by
      have hi' : 0 < len := by have := (List.getElem?_eq_some_iff.1 hi).1; omega
      obtain ⟨k0, h0⟩ := hex 0 hi'
      have := (World.cells?_some h0).2.2 0 (by decide)
      simp only [Nat.zero_mul, Addr.add, if_true] at this
      exact World.cell?_spot (this.trans (show k0.cl[0]? = some _ from rfl))
    subst hsp
    refine ⟨b, off, rfl, ?_⟩
    intro j v hj
    have hj' : j < 49 := by have := (List.getElem?_eq_some_iff.1 hj).1; rw [k.len] at this; exact this
    have := hcell j hj'
    rw [Addr.add_mid, Addr.add_mid, hj] at this
    exact this
end
end Go.Proofs.Ytfemjcbhgfhbjaa
