/-
  Add at every act; New; the acts of a list, added one after the other.
-/
import Derived.Test.YtfemjcbhgfhbjaaModel
import Derived.Carry
namespace Go.Proofs.Ytfemjcbhgfhbjaa
open Go.RowKit

/-- What Add leaves. -/
def Added (base hb : Nat) (r : St × Int) (w : World) (e : Ending) (w' : World) : Prop := e = .returned (.int .i64 r.2) ∧ Hist w' base hb r.1.1 r.1.2 ∧ Below base w w' ∧ TyKept w w'
theorem Hist.base_le {w : World} {base hb : Nat} {ks : List Kn} {us : List (Int × Int × Int)} (h : Hist w base hb ks us) : base ≤ w.heap.size := by
  obtain ⟨_, _, _, h1, h2, _⟩ := h
  exact Nat.le_of_lt (Nat.lt_of_le_of_lt h2 (block_lt h1))
theorem add_c (k : Kn) (base hb : Nat) (s : St) (w : World) (hh : Hist w base hb s.1 s.2) (hi : Inv s.1 s.2) (hlen : s.1.length ≤ 3000) :
    Calls Try.prog 16 #[.pointer (some ⟨hb, 0, none⟩), .agg k.cs] w (Added base hb (stepK s k) w) := by
  unfold stepK
  split
  · rename_i hv
    exact (add_bad k hb w hv).mono fun e w' ⟨he, hx⟩ => ⟨he, hh.ext hx, hx.mono hh.base_le, TyKept.of_ext hx⟩
  · rename_i hv
    have hv' : k.valid = true := by simpa using hv
    split
    · rename_i hu
      exact (add_twice k base hb s.1 s.2 w hh hv' hu).mono fun e w' ⟨he, hx⟩ => ⟨he, hh.ext hx, hx.mono hh.base_le, TyKept.of_ext hx⟩
    · rename_i hu
      exact add_ok k base hb (posK s.1 k) s.1 s.2 w hh hv' hu hlen (posK_le _ _) (posK_iff hi.sorted)

def NewPost (w : World) (e : Ending) (w' : World) : Prop := ∃ hb, e = .returned (.pointer (some ⟨hb, 0, none⟩)) ∧ Hist w' w.heap.size hb [] [] ∧ Ext w w'
set_option maxRecDepth 100000 in
set_option maxHeartbeats 400000 in
theorem new_c (w : World) : Calls Try.prog 17 #[] w (NewPost w) := by
  have hmm := @run_makeMap Try.prog
  go_enter Try.func17, Try.ntmps17
  go_wp2_with fail
  go_ret
  refine ⟨w.heap.size + 1, rfl, ⟨.slice none 0 0, w.heap.size, [], ?_, by omega, Nat.le_refl _, ⟨#[], 0, ?_, rfl, by simp⟩, World.ownsRow_nil _ _ _ _, by simp⟩, (Ext.new _ _).alloc _⟩
  · have := heap_alloc_last (w.alloc (.map #[] 0)) (.cells #[.slice none 0 0, .map (some w.heap.size)] 75)
    simpa using this
  · rw [Below.heap_alloc _ _ _ (by simp)]
    exact heap_alloc_last w _

/-- The numbers of the errors lie in the slice at eo. -/
def ErrSl (w : World) (eo : Option Addr) (es : List Int) : Prop := ∀ i x, es[i]? = some x → ∃ b, eo = some ⟨b, 0, none⟩ ∧ w.cell? ⟨b, i, none⟩ = some (.int .i64 x)
theorem ErrSl.ext {w w' : World} {eo : Option Addr} {es : List Int} (h : ErrSl w eo es) (hx : Ext w w') : ErrSl w' eo es := by
  intro i x hi
  obtain ⟨b, e, hc⟩ := h i x hi
  exact ⟨b, e, by rw [hx.cell (block_lt_of_cell hc)]; exact hc⟩
def errC (es : List Int) : List Value := es.map fun x => .int .i64 x
def AddedPost (ls : List Kn) (w : World) (e : Ending) (w' : World) : Prop := ∃ hb eo ec, e = .returned (.tuple #[.pointer (some ⟨hb, 0, none⟩), .slice eo ls.length ec]) ∧
  Hist w' w.heap.size hb (runK ([], []) ls).1.1 (runK ([], []) ls).1.2 ∧ ErrSl w' eo (runK ([], []) ls).2 ∧ Ext w w' ∧ ∀ a, eo = some a → w.heap.size ≤ a.block
theorem own58_ty {w w' : World} {base : Nat} {v : Value} {n : Nat} {xs : List Value} (h : w.ownsRow base 58 1 v n xs) (ht : TyKept w w') : w'.ownsRow base 58 1 v n xs := by
  refine ⟨h.1, ?_⟩
  rcases h.2 with hn | ⟨g, cap, cur, rfl, hbg, hg, r⟩
  · exact .inl hn
  · exact .inr ⟨g, cap, cur, rfl, hbg, (ht g _ _ _ hg (by decide) (by decide)).trans hg, r⟩
theorem Hist.keep {w w' : World} {base hb : Nat} {ks : List Kn} {us : List (Int × Int × Int)} (h : Hist w base hb ks us) (hk : ∀ j : Nat, j < w.heap.size → (∀ c fr, w.heap[j]? ≠ some (.cells c 58 fr)) → w'.heap[j]? = w.heap[j]?) : Hist w' base hb ks us := by
  obtain ⟨sv, mb, ps, h1, h2, h3, h4, h5, h6⟩ := h
  refine ⟨sv, mb, ps, (hk hb (block_lt h1) (fun c fr e => by rw [h1] at e; cases e)).trans h1, h2, h3, h4.same (hk mb h4.lt ?_), ⟨h5.1, ?_⟩, ?_⟩
  · intro c fr e
    obtain ⟨es, clock, hmb, _⟩ := h4
    rw [hmb] at e
    cases e
  · rcases h5.2 with hn | ⟨g, cap, cur, rfl, hbg, hg, r⟩
    · exact .inl hn
    · exact .inr ⟨g, cap, cur, rfl, hbg, (hk g (block_lt hg) (fun c fr e => by rw [hg] at e; cases e)).trans hg, r⟩
  · intro i k hi
    obtain ⟨p, hp, hc⟩ := h6 i k hi
    exact ⟨p, hp, (hk p (block_lt hc) (fun c fr e => by rw [hc] at e; cases e)).trans hc⟩
theorem own58_block {w : World} {base : Nat} {v : Value} {n : Nat} {xs : List Value} (h : w.ownsRow base 58 1 v n xs) : ∀ g, v.ownBlock = some g → ∃ cur, w.heap[g]? = some (.cells cur 58 (0, 0)) := by
  intro g hg
  rcases h.2 with ⟨rfl, _⟩ | ⟨g', cap, cur, rfl, _, hb, _⟩
  · simp [Value.ownBlock] at hg
  · simp [Value.ownBlock] at hg
    subst hg
    exact ⟨cur, hb⟩
theorem err_done {w wr : World} {v : Value} {n : Nat} {es : List Int} (h : wr.ownsRow w.heap.size 58 1 v n (errC es)) : ∃ eo ec, v = .slice eo n ec ∧ ErrSl wr eo es ∧ ∀ a, eo = some a → w.heap.size ≤ a.block := by
  rcases h.2 with ⟨rfl, rfl⟩ | ⟨g, cap, cur, rfl, hbg, hg, _, _, _, ht⟩
  · refine ⟨none, 0, rfl, ?_, fun a h => by cases h⟩
    have : es = [] := by have := h.1; simpa [errC] using this
    subst this
    intro i x hx
    simp at hx
  · refine ⟨_, cap, rfl, ?_, fun a h => by cases h; exact hbg⟩
    intro i x hx
    refine ⟨g, rfl, ?_⟩
    have := h.cells (g := g) rfl i (.int .i64 x) (by simp [errC, hx])
    rw [Addr.add_mid, Nat.zero_add] at this
    exact this

theorem info58 : (Try.prog.info? 58).map (fun i => (i.zero, i.size, i.bytes)) = some (some (.int .i64 0), 1, 8) := by kernel_rfl

theorem take_snoc {α : Type} {l : List α} {k : Nat} {x : α} (h : l[k]? = some x) : l.take (k + 1) = l.take k ++ [x] := by
  rw [List.take_add_one, h]
  rfl
theorem err_step {ls : List Kn} {k : Nat} {x : Kn} (h : ls[k]? = some x) : runK ([], []) (ls.take (k + 1)) = ((stepK (runK ([], []) (ls.take k)).1 x).1, (runK ([], []) (ls.take k)).2 ++ [(stepK (runK ([], []) (ls.take k)).1 x).2]) := by
  rw [take_snoc h, runK_snoc]

set_option maxRecDepth 100000 in
set_option maxHeartbeats 2000000 in
theorem added_c (ao : Option Addr) (c : Nat) (ls : List Kn) (w : World) (hl : KSl w ao ls) (hlen : ls.length ≤ 2000) :
    Calls Try.prog 9 #[.slice ao ls.length c] w (AddedPost ls w) := by
  have HL := Lib.hid hl
  clear hl
  obtain ⟨i0, hi, hz0, hzs, hzb⟩ := info_parts info58
  have HI := Lib.hid hi
  have HZ := Lib.hid hz0
  have HZS := Lib.hid hzs
  have HZB := Lib.hid hzb
  clear hi hz0 hzs hzb
  go_enter Try.func9, Try.ntmps9
  go_wp2_with (go_at_call 17; refine (new_c _).mono ?_; rintro e w1 ⟨hb, rfl, hh, hx⟩)
  have HH := Lib.hid hh
  have HX := Lib.hid hx
  clear hh hx
  go_loopw [5, 6] (fun v i wr => ∃ k : Nat, k ≤ ls.length ∧ i = .int .i64 k ∧ Hid (wr.ownsRow w.heap.size 58 1 v k (errC (runK ([], []) (ls.take k)).2)) ∧ Hid (Hist wr w.heap.size hb (runK ([], []) (ls.take k)).1.1 (runK ([], []) (ls.take k)).1.2) ∧ Hid (Ext w wr)) (fun _ i _ => ls.length - (intOf i).toNat)
  case atStart => exact ⟨0, Nat.zero_le _, rfl, World.ownsRow_nil _ _ _ _, HH.out, HX.out⟩
  case round =>
    obtain ⟨k, hk, rfl, hown, hh, hx⟩ := hrel
    by_cases hlt : k < ls.length
    · obtain ⟨x, hxk⟩ : ∃ x, ls[k]? = some x := ⟨_, List.getElem?_eq_getElem hlt⟩
      obtain ⟨b, off, rfl, hxa⟩ := HL.out k x hxk
      have f1 := (hxa.ext hx.out).has
      have f2 := (hxa.ext hx.out).eq
      have i1 : (0 : Int) ≤ (k : Int) := by omega
      have i2 : (k : Int) < (ls.length : Int) := by omega
      have hinv : Inv (runK ([], []) (ls.take k)).1.1 (runK ([], []) (ls.take k)).1.2 := runK_inv _ Inv.nil
      have hsz : (runK ([], []) (ls.take k)).1.1.length ≤ 3000 := by
        have := runK_size (ls.take k) ([], [])
        simp at this
        omega
      have hadd := Lib.hid (add_c x w.heap.size hb (runK ([], []) (ls.take k)).1 wr hh.out hinv hsz)
      have hst := Lib.hid (err_step hxk)
      clear hxk hxa hinv hsz
      generalize runK ([], []) (ls.take k) = R at *
      generalize stepK R.1 x = S at *
      go_wp2_with (first
        | (go_at_call 16; refine hadd.out.mono ?_; rintro e w2 ⟨rfl, hh2, hb2, ht2⟩; have ho2 := Lib.hid (own58_ty hown.out ht2); have hH2 := Lib.hid hh2; have hB2 := Lib.hid (show Ext w w2 from Below.trans hx.out hb2); clear hh2 hb2 ht2)
        | (at_builtin; refine wpList_append_own _ rfl _ _ 25 rfl w.heap.size 58 i0 (.int .i64 0) 1 8 Try.underlying25 HI.out HZ.out HZS.out HZB.out rfl (by decide) _ k (errC R.2) rfl (ho2.out.alloc _) ⟨w2.heap.size, 0, none⟩ 1 1 [.int .i64 S.2] rfl rfl ?c2 ?c3 ?c4 ?c5 ?c6 ?_))
      case c2 => intro j u hu; rw [Addr.add_mid, Nat.zero_add]; simpa using hu
      case c3 => intro u hu; simp at hu; rw [hu]; rfl
      case c4 => unfold maxLen; omega
      case c5 => omega
      case c6 => have := hB2.out.size; simp; omega
      intro v' w3 ho3 hg3 _
      have fin : Hid (w3.ownsRow w.heap.size 58 1 v' (k + 1) (errC (runK ([], []) (ls.take (k + 1))).2)) ∧ Hid (Hist w3 w.heap.size hb (runK ([], []) (ls.take (k + 1))).1.1 (runK ([], []) (ls.take (k + 1))).1.2) ∧ Hid (Ext w w3) := by
        have h58 := own58_block ho2.out
        have hsz := hB2.out.size
        have e2 := hst.out
        rw [e2]
        refine ⟨?_, ?_, ?_⟩
        · show w3.ownsRow w.heap.size 58 1 v' (k + 1) (errC (R.2 ++ [S.2]))
          have : errC (R.2 ++ [S.2]) = errC R.2 ++ [.int .i64 S.2] := by simp [errC]
          rw [this]
          exact ho3
        · show Hist w3 w.heap.size hb S.1.1 S.1.2
          refine (hH2.out.ext (Ext.new w2 (.cells #[.int .i64 S.2] 58))).keep ?_
          intro j hj hne
          refine hg3.block j hj (fun e => ?_)
          obtain ⟨cur, hc⟩ := h58 j e.symm
          exact hne cur (0, 0) (by rw [Below.heap_alloc _ _ _ (block_lt hc)]; exact hc)
        · exact (hB2.out.alloc _).grown hg3 (by simp; omega) (fun g hg => ((ho2.out.lt g hg).1))
      clear ho3 hg3 hadd hst
      go_wp2_with fail
      go_roundw
      case rel => exact ⟨k + 1, by omega, by go_num, fin.1, fin.2.1, fin.2.2⟩
      case measure => simp [intOf]; omega
    · go_wp2_with fail
      go_ret2
      have hkl : k = ls.length := by omega
      subst hkl
      have e1 : ls.take ls.length = ls := List.take_length
      rw [e1] at hown hh
      obtain ⟨eo, ec, e3, he, hf⟩ := err_done hown.out
      exact ⟨hb, eo, ec, by rw [e3]; rfl, hh.out, he, hx.out, hf⟩
end Go.Proofs.Ytfemjcbhgfhbjaa
