/-
  At, Since, has: what is known on a day.
-/
import Derived.Test.YtfemjcbhgfhbjaaBuild
namespace Go.Proofs.Ytfemjcbhgfhbjaa
open Go.RowKit

/-- Pointers to the acts ks lie in the slice at ao. -/
def PSl (w : World) (ao : Option Addr) (ks : List Kn) : Prop := ∀ i k, ks[i]? = some k → ∃ g p, ao = some ⟨g, 0, none⟩ ∧ w.cell? ⟨g, i, none⟩ = some (.pointer (some ⟨p, 0, none⟩)) ∧ KAt w p 0 k
/-- Block hb is a history of the acts ks. -/
def HistR (w : World) (hb : Nat) (ks : List Kn) : Prop := ∃ ao cap mv, w.heap[hb]? = some (.cells #[.slice ao ks.length cap, mv] 75 (0, 0)) ∧ PSl w ao ks
theorem PSl.ext {w w' : World} {ao : Option Addr} {ks : List Kn} (h : PSl w ao ks) (hx : Ext w w') : PSl w' ao ks := by
  intro i k hk
  obtain ⟨g, p, e, hc, ha⟩ := h i k hk
  exact ⟨g, p, e, by rw [hx.cell (block_lt_of_cell hc)]; exact hc, ha.ext hx⟩
theorem block_lt {w : World} {b : Nat} {o : Obj} (h : w.heap[b]? = some o) : b < w.heap.size := (Array.getElem?_eq_some_iff.1 h).1
theorem HistR.ext {w w' : World} {hb : Nat} {ks : List Kn} (h : HistR w hb ks) (hx : Ext w w') : HistR w' hb ks := by
  obtain ⟨ao, cap, mv, h1, h2⟩ := h
  exact ⟨ao, cap, mv, by rw [hx.block hb (block_lt h1)]; exact h1, h2.ext hx⟩

def atK (ks : List Kn) (known : Int) : List Kn := ks.takeWhile fun k => decide (k.d ≤ known)
def AtPost (ks : List Kn) (w : World) (e : Ending) (w' : World) : Prop := ∃ ao c, e = .returned (.slice ao ks.length c) ∧ KSl w' ao ks ∧ Ext w w' ∧ ∀ a, ao = some a → w.heap.size ≤ a.block

theorem ownsRow.fresh {w : World} {base : Nat} {ks : List Kn} {ao : Option Addr} {n c : Nat} (h : w.ownsRow base 56 49 (.slice ao n c) ks.length (flat ks)) : ∀ a, ao = some a → base ≤ a.block := by
  rintro a rfl
  obtain ⟨_, h⟩ := h
  rcases h with ⟨h, _⟩ | ⟨g, cap, cur, h, hb, _⟩
  · cases h
  · cases h
    exact hb

theorem atK_step {ks : List Kn} {k : Nat} {x : Kn} {known : Int} (hx : ks[k]? = some x) (hd : x.d ≤ known) (h : atK ks known = ks.take k ++ atK (ks.drop k) known) : atK ks known = ks.take (k + 1) ++ atK (ks.drop (k + 1)) known := by
  obtain ⟨h1, e1⟩ := List.getElem?_eq_some_iff.1 hx
  rw [h, List.drop_eq_getElem_cons h1, e1, List.take_add_one, hx]
  simp [atK, hd]
theorem atK_stop {ks : List Kn} {k : Nat} {x : Kn} {known : Int} (hx : ks[k]? = some x) (hd : known < x.d) (h : atK ks known = ks.take k ++ atK (ks.drop k) known) : atK ks known = ks.take k := by
  obtain ⟨h1, e1⟩ := List.getElem?_eq_some_iff.1 hx
  rw [h, List.drop_eq_getElem_cons h1, e1]
  simp [atK, show ¬ x.d ≤ known from by omega]
theorem atK_end {ks : List Kn} {k : Nat} {known : Int} (hk : ks.length ≤ k) (h : atK ks known = ks.take k ++ atK (ks.drop k) known) : atK ks known = ks.take k := by
  rw [h, List.drop_eq_nil_of_le hk]
  simp [atK]
theorem at_done {ks l : List Kn} {w wr : World} {v : Value} {k : Nat} (hl : l = ks.take k) (hk : k ≤ ks.length) (hown : wr.ownsRow w.heap.size 56 49 v k (flat (ks.take k))) (hx : Ext w wr) : AtPost l w (.returned v) wr := by
  subst hl
  have e : (ks.take k).length = k := by simp; omega
  have hown' : wr.ownsRow w.heap.size 56 49 v (ks.take k).length (flat (ks.take k)) := by rw [e]; exact hown
  obtain ⟨ao, c, rfl, h⟩ := KSl.of_owns hown'
  exact ⟨ao, c, rfl, h, hx, ownsRow.fresh hown'⟩
theorem own_step {ks : List Kn} {k : Nat} {x : Kn} {w wr w1 : World} {v v' : Value} (hx : ks[k]? = some x) (hown : wr.ownsRow w.heap.size 56 49 v k (flat (ks.take k))) (hxt : Ext w wr)
    (h1 : w1.ownsRow w.heap.size 56 49 v' (k + 1) (flat (ks.take k) ++ x.cl)) (h2 : (wr.alloc (.cells x.cs 56)).grownBy w1 v.ownBlock) : w1.ownsRow w.heap.size 56 49 v' (k + 1) (flat (ks.take (k + 1))) ∧ Ext w w1 := by
  refine ⟨?_, (hxt.alloc _).grown h2 (by have := hxt.size; simp; omega) (fun b hb => (hown.lt b hb).1)⟩
  rw [List.take_add_one, hx]
  simp only [Option.toList_some, flat_append, flat_one]
  exact h1

set_option maxRecDepth 100000 in
set_option maxHeartbeats 1000000 in
theorem at_c (hb : Nat) (ks : List Kn) (known : Int) (w : World) (hh : HistR w hb ks) (hm : ks.length ≤ 100000) :
    Calls Try.prog 10 #[.pointer (some ⟨hb, 0, none⟩), .int .i64 known] w (AtPost (atK ks known) w) := by
  obtain ⟨ao, cap, mv, h1, h2⟩ := hh
  have H2 := Lib.hid h2
  have c0 : w.cell? ⟨hb, 0, none⟩ = some (.slice ao ks.length cap) := by rw [cell_of_row w hb 0 _ _ _ h1]; rfl
  clear h1 h2
  obtain ⟨i0, z0, hi, hz0, hzs, hsz, hby⟩ := zero56
  have HI := Lib.hid hi
  have HZ := Lib.hid hz0
  have HZS := Lib.hid hzs
  have HSZ := Lib.hid hsz
  have HBY := Lib.hid hby
  clear hi hz0 hzs hsz hby
  go_enter Try.func10, Try.ntmps10
  go_wp2_with fail
  go_loopw [5, 16] (fun v i wr => ∃ k : Nat, k ≤ ks.length ∧ i = .int .i64 k ∧ Hid (atK ks known = ks.take k ++ atK (ks.drop k) known) ∧ Hid (wr.ownsRow w.heap.size 56 49 v k (flat (ks.take k))) ∧ Hid (Ext w wr)) (fun _ i _ => ks.length - (intOf i).toNat)
  case atStart => exact ⟨0, Nat.zero_le _, rfl, rfl, World.ownsRow_nil _ _ _ _, Ext.refl _⟩
  case round =>
    obtain ⟨k, hk, rfl, hs, hown, hx⟩ := hrel
    by_cases hlt : k < ks.length
    · obtain ⟨x, hxk⟩ : ∃ x, ks[k]? = some x := ⟨_, List.getElem?_eq_getElem hlt⟩
      obtain ⟨g, p, rfl, hc, ha⟩ := H2.out k x hxk
      have f0 : wr.cell? ⟨g, k, none⟩ = some (.pointer (some ⟨p, 0, none⟩)) := by rw [hx.out.cell (block_lt_of_cell hc)]; exact hc
      have f1 := (ha.ext hx.out).has
      have f2 := (ha.ext hx.out).eq
      have f3 := (ha.ext hx.out).cell.1
      have HXK := Lib.hid hxk
      clear hc ha hxk
      by_cases hd : x.d ≤ known
      · have hs' := Lib.hid (atK_step HXK.out hd hs.out)
        go_wp2_with (at_builtin; refine wpList_append_own _ rfl _ _ 22 rfl w.heap.size 56 i0 z0 49 696 Try.underlying22 HI.out HZ.out HSZ.out HBY.out HZS.out (by decide) _ k (flat (ks.take k)) rfl (hown.out.alloc _) ⟨wr.heap.size, 0, none⟩ 1 1 x.cl rfl ?c1 ?c2 ?c3 ?c4 ?c5 ?c6 ?_)
        case c1 => rw [x.len]
        case c2 => exact fun j u hu => by rw [Addr.add_mid]; exact KAt.new wr x 56 j u hu
        case c3 => exact x.one'
        case c4 => unfold maxLen; omega
        case c5 => omega
        case c6 => have := hx.out.size; simp; omega
        intro v' w1 ho1 hg1 _
        have hn := own_step HXK.out hown.out hx.out ho1 hg1
        have hn1 := Lib.hid hn.1
        have hn2 := Lib.hid hn.2
        clear ho1 hg1 hn
        go_wp2_with fail
        go_roundw
        case rel => exact ⟨k + 1, by omega, by go_num, hs'.out, hn1.out, hn2.out⟩
        case measure => simp [intOf]; omega
      · have hs' := Lib.hid (atK_stop HXK.out (by omega) hs.out)
        go_wp2_with fail
        go_ret
        exact at_done hs'.out hk hown.out hx.out
    · have hs' := Lib.hid (atK_end (by omega) hs.out)
      go_wp2_with fail
      go_ret
      exact at_done hs'.out hk hown.out hx.out
end Go.Proofs.Ytfemjcbhgfhbjaa
