/-
  HistoryLater: the law without the program; At, with its capacity.
-/
import Derived.Test.YtfemjcbhgfhbjaaPure
namespace Go.Proofs.Ytfemjcbhgfhbjaa
open Go.RowKit

/-- What was added has different places, and is valid. -/
theorem okOf_apt : ∀ (ls : List Kn) (s : St), (okOf ls (runK s ls).2).Pairwise (fun a b => ¬ a.bare = b.bare) ∧ ∀ k ∈ okOf ls (runK s ls).2, k.valid = true ∧ ¬ k.bare ∈ s.2
  | [], s => by simp [runK, okOf]
  | k :: ls, s => by
    simp only [runK, okOf_cons]
    have ih := okOf_apt ls (stepK s k).1
    by_cases h : (stepK s k).2 = 0
    · rw [if_pos h]
      obtain ⟨h1, h2, h3⟩ := stepK_ins h
      rw [h1] at ih ⊢
      have h4 : ∀ x ∈ okOf ls (runK (insK s.1 k, s.2 ++ [k.bare]) ls).2, x.valid = true ∧ ¬ x.bare ∈ s.2 ∧ ¬ x.bare = k.bare := fun x hx => by
        have := ih.2 x hx
        simpa using this
      refine ⟨List.pairwise_cons.2 ⟨fun x hx e => (h4 x hx).2.2 e.symm, ih.1⟩, fun x hx => ?_⟩
      rcases List.mem_cons.1 hx with rfl | hx
      · exact ⟨h2, h3⟩
      · exact ⟨(h4 x hx).1, (h4 x hx).2.1⟩
    · rw [if_neg h]
      rw [stepK_same h] at ih ⊢
      exact ih

/-- The first k acts: those that were added, up to a day. -/
def onlyK (ls : List Kn) (es : List Int) (m : Int) (k : Nat) : List Kn := (((ls.zip es).take k).filter fun x => x.2 == 0 && decide (x.1.d ≤ m)).map (·.1)
theorem only_step {ls : List Kn} {es : List Int} {m : Int} {k : Nat} {x : Kn} {e : Int} (hx : ls[k]? = some x) (he : es[k]? = some e) :
    onlyK ls es m (k + 1) = onlyK ls es m k ++ if e = 0 ∧ x.d ≤ m then [x] else [] := by
  have hz : (ls.zip es)[k]? = some (x, e) := by rw [List.getElem?_zip_eq_some]; exact ⟨hx, he⟩
  unfold onlyK
  rw [take_snoc hz, List.filter_append, List.map_append]
  congr 1
  by_cases h1 : e = 0 <;> by_cases h2 : x.d ≤ m <;> simp [h1, h2]
theorem only_all (ls : List Kn) (es : List Int) (m : Int) (h : es.length = ls.length) : onlyK ls es m ls.length = (okOf ls es).filter fun k => decide (k.d ≤ m) := by
  unfold onlyK okOf
  rw [List.take_of_length_le (by simp; omega), List.filter_map, List.filter_filter]
  congr 2
  funext x
  simp [Bool.and_comm]
theorem only_len (ls : List Kn) (es : List Int) (m : Int) (k : Nat) : (onlyK ls es m k).length ≤ k := by
  unfold onlyK
  rw [List.length_map]
  refine Nat.le_trans (List.length_filter_le _ _) ?_
  simp
  omega
theorem atK_take {ks : List Kn} (hs : ks.Pairwise Lt) {a b : Int} (h : a ≤ b) : (atK ks b).take (atK ks a).length = atK ks a := by
  induction ks with
  | nil => rfl
  | cons y ks ih =>
    rw [List.pairwise_cons] at hs
    have ih := ih hs.2
    unfold atK at ih ⊢
    simp only [List.takeWhile_cons]
    by_cases hy : y.d ≤ a
    · have : y.d ≤ b := by omega
      simp only [hy, this, decide_true, if_true, List.length_cons, List.take_succ_cons]
      rw [ih]
    · simp [hy]
theorem later_law (ls : List Kn) {a b : Int} (h : a ≤ b) : atK (runK ([], []) (onlyK ls (runK ([], []) ls).2 a ls.length)).1.1 b = atK (runK ([], []) ls).1.1 a := by
  rw [only_all ls _ a (runK_len ls _)]
  obtain ⟨h1, h2⟩ := okOf_apt ls ([], [])
  have hm := run_mem ls ([], [])
  have hs := run_sorted ls
  generalize (runK ([], []) ls).1.1 = ks at *
  generalize okOf ls (runK ([], []) ls).2 = ok at *
  have hap : Apt [] (ok.filter fun k => decide (k.d ≤ a)) := ⟨(h1.filter _).filter _, by simp⟩
  have hfv : (ok.filter fun k => decide (k.d ≤ a)).filter (·.valid) = ok.filter fun k => decide (k.d ≤ a) := by
    rw [List.filter_eq_self]
    intro x hx
    exact (h2 x (List.mem_filter.1 hx).1).1
  have hr := run_apt _ ([], []) hap
  rw [hfv] at hr
  refine sorted_ext (atK_sorted (run_sorted _) _) (atK_sorted hs _) (fun x => ?_)
  rw [mem_atK (run_sorted _), mem_atK hs, run_mem, hr, hm x, List.mem_filter]
  simp only [List.not_mem_nil, false_or, decide_eq_true_eq]
  constructor
  · rintro ⟨⟨h3, h4⟩, _⟩
    exact ⟨h3, h4⟩
  · rintro ⟨h3, h4⟩
    exact ⟨⟨h3, h4⟩, by omega⟩
theorem KSl.take {w : World} {ao : Option Addr} {ks : List Kn} (h : KSl w ao ks) (n : Nat) : KSl w ao (ks.take n) := by
  intro i k hk
  rw [List.getElem?_take] at hk
  split at hk
  · exact h i k hk
  · cases hk

def AtCap (ks : List Kn) (w : World) (e : Ending) (w' : World) : Prop := ∃ ao c, e = .returned (.slice ao ks.length c) ∧ KSl w' ao ks ∧ Ext w w' ∧ ks.length ≤ c
theorem at_doneC {ks l : List Kn} {w wr : World} {v : Value} {k : Nat} (hl : l = ks.take k) (hk : k ≤ ks.length) (hown : wr.ownsRow w.heap.size 56 49 v k (flat (ks.take k))) (hx : Ext w wr) : AtCap l w (.returned v) wr := by
  subst hl
  have e : (ks.take k).length = k := by simp; omega
  have hown' : wr.ownsRow w.heap.size 56 49 v (ks.take k).length (flat (ks.take k)) := by rw [e]; exact hown
  obtain ⟨ao, c, rfl, h⟩ := KSl.of_owns hown'
  refine ⟨ao, c, rfl, h, hx, ?_⟩
  rcases hown'.2 with ⟨_, h0⟩ | ⟨g, cap, cur, h1, _, _, h2, _⟩
  · omega
  · cases h1
    exact h2
set_option maxRecDepth 100000 in
set_option maxHeartbeats 1000000 in
theorem at_cc (hb : Nat) (ks : List Kn) (known : Int) (w : World) (hh : HistR w hb ks) (hm : ks.length ≤ 100000) :
    Calls Try.prog 10 #[.pointer (some ⟨hb, 0, none⟩), .int .i64 known] w (AtCap (atK ks known) w) := by
  obtain ⟨ao, cap, mv, h1, h2⟩ := hh
  have H2 := Lib.hid h2
  have c0 : w.cell? ⟨hb, 0, none⟩ = some (.slice ao ks.length cap) := by rw [cell_of_row w hb 0 _ _ _ h1]; rfl
  clear h1 h2
  obtain ⟨i0, z0, hi, hz0, hzs, hsz, hby⟩ := zero56
  have HI := Lib.hid hi
  have HZ := Lib.hid hz0
  have HZS := Lib.hid hzs
  have HSZ := Lib.hid hsz
  have HBY := Lib.hid hby
  clear hi hz0 hzs hsz hby
  go_enter Try.func10, Try.ntmps10
  go_wp2_with fail
  go_loopw [5, 16] (fun v i wr => ∃ k : Nat, k ≤ ks.length ∧ i = .int .i64 k ∧ Hid (atK ks known = ks.take k ++ atK (ks.drop k) known) ∧ Hid (wr.ownsRow w.heap.size 56 49 v k (flat (ks.take k))) ∧ Hid (Ext w wr)) (fun _ i _ => ks.length - (intOf i).toNat)
  case atStart => exact ⟨0, Nat.zero_le _, rfl, rfl, World.ownsRow_nil _ _ _ _, Ext.refl _⟩
  case round =>
    obtain ⟨k, hk, rfl, hs, hown, hx⟩ := hrel
    by_cases hlt : k < ks.length
    · obtain ⟨x, hxk⟩ : ∃ x, ks[k]? = some x := ⟨_, List.getElem?_eq_getElem hlt⟩
      obtain ⟨g, p, rfl, hc, ha⟩ := H2.out k x hxk
      have f0 : wr.cell? ⟨g, k, none⟩ = some (.pointer (some ⟨p, 0, none⟩)) := by rw [hx.out.cell (block_lt_of_cell hc)]; exact hc
      have f1 := (ha.ext hx.out).has
      have f2 := (ha.ext hx.out).eq
      have f3 := (ha.ext hx.out).cell.1
      have HXK := Lib.hid hxk
      clear hc ha hxk
      by_cases hd : x.d ≤ known
      · have hs' := Lib.hid (atK_step HXK.out hd hs.out)
        go_wp2_with (at_builtin; refine wpList_append_own _ rfl _ _ 22 rfl w.heap.size 56 i0 z0 49 696 Try.underlying22 HI.out HZ.out HSZ.out HBY.out HZS.out (by decide) _ k (flat (ks.take k)) rfl (hown.out.alloc _) ⟨wr.heap.size, 0, none⟩ 1 1 x.cl rfl ?c1 ?c2 ?c3 ?c4 ?c5 ?c6 ?_)
        case c1 => rw [x.len]
        case c2 => exact fun j u hu => by rw [Addr.add_mid]; exact KAt.new wr x 56 j u hu
        case c3 => exact x.one'
        case c4 => unfold maxLen; omega
        case c5 => omega
        case c6 => have := hx.out.size; simp; omega
        intro v' w1 ho1 hg1 _
        have hn := own_step HXK.out hown.out hx.out ho1 hg1
        have hn1 := Lib.hid hn.1
        have hn2 := Lib.hid hn.2
        clear ho1 hg1 hn
        go_wp2_with fail
        go_roundw
        case rel => exact ⟨k + 1, by omega, by go_num, hs'.out, hn1.out, hn2.out⟩
        case measure => simp [intOf]; omega
      · have hs' := Lib.hid (atK_stop HXK.out (by omega) hs.out)
        go_wp2_with fail
        go_ret
        exact at_doneC hs'.out hk hown.out hx.out
    · have hs' := Lib.hid (atK_end (by omega) hs.out)
      go_wp2_with fail
      go_ret
      exact at_doneC hs'.out hk hown.out hx.out

/-- min and max, behind a name. -/
def mn (x y : Int) : Int := if y < x then y else x
def mx (x y : Int) : Int := if y > x then y else x
@[go_sem high] theorem run_mn (w : World) (ts : Array TypeId) (t : TypeId) (x y : Int) : (Builtin.min_ ts t #[.int .i64 x, .int .i64 y]).run Try.prog w = .ok (.int .i64 (mn x y)) w := run_min_int2 _ _ _ _ _ _ _
@[go_sem high] theorem run_mx (w : World) (ts : Array TypeId) (t : TypeId) (x y : Int) : (Builtin.max_ ts t #[.int .i64 x, .int .i64 y]).run Try.prog w = .ok (.int .i64 (mx x y)) w := run_max_int2 _ _ _ _ _ _ _
theorem mn_mx (x y : Int) : mn x y ≤ mx x y := by
  unfold mn mx
  split <;> split <;> omega
@[go_sem high] theorem run_cutK (w : World) (a : Option Addr) (n c h : Nat) (hc : (h : Int) ≤ c) : (Instr.slice 22 (.slice a n c) none (some (.int .i64 h)) none).run Try.prog w = .ok (.slice a h c) w := by
  have hu : Try.prog.underlying 22 = some (.slice (Try.prog.elem 22)) := by kernel_rfl
  have hso : (sizeOf (Try.prog.elem 22)).run Try.prog w = .ok 49 w := by
    obtain ⟨i, z, hi, hz, hzs, hs, _⟩ := zero56
    have : Try.prog.elem 22 = 56 := by kernel_rfl
    rw [this]
    simp [sizeOf, typeInfo, hi, hs]
  rw [run_slice_h _ _ _ _ _ hu _ _ (by omega) hc, hso]
  have : ∀ a : Option Addr, a.map (fun x => x.add (0 * 49)) = a := fun a => by cases a <;> simp [Addr.add_zero']
  simp [Result.andThen, sliced, this]
end Go.Proofs.Ytfemjcbhgfhbjaa
