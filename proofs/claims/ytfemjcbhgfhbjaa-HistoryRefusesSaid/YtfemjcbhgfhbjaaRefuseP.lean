/-
  HistoryRefuses: the law without the program; At, with what it owns; append of such a slice.
-/
import Derived.Test.YtfemjcbhgfhbjaaPure
import Derived.Laws.OwnMore
namespace Go.Proofs.Ytfemjcbhgfhbjaa
open Go.RowKit

/-- Among the first j acts one was added with the place of k. -/
def twK (ls : List Kn) (es : List Int) (k : Kn) (j : Nat) : Bool := ((ls.zip es).take j).any fun x => x.2 == 0 && x.1.o == k.o && x.1.n == k.n && x.1.i == k.i
theorem tw_step {ls : List Kn} {es : List Int} {k : Kn} {j : Nat} {x : Kn} {e : Int} (hx : ls[j]? = some x) (he : es[j]? = some e) :
    twK ls es k (j + 1) = (twK ls es k j || (e == 0 && x.o == k.o && x.n == k.n && x.i == k.i)) := by
  have hz : (ls.zip es)[j]? = some (x, e) := by rw [List.getElem?_zip_eq_some]; exact ⟨hx, he⟩
  unfold twK
  rw [take_snoc hz, List.any_append]
  simp
theorem tw_all (ls : List Kn) (k : Kn) : twK ls (runK ([], []) ls).2 k ls.length = true ↔ k.bare ∈ (runK ([], []) ls).1.2 := by
  have hi : Inv (runK ([], []) ls).1.1 (runK ([], []) ls).1.2 := runK_inv ls Inv.nil
  have hm := run_mem ls ([], [])
  rw [hi.used]
  unfold twK
  rw [List.take_of_length_le (by simp; omega), List.any_eq_true]
  constructor
  · rintro ⟨⟨x, e⟩, h1, h2⟩
    simp only [Bool.and_eq_true, beq_iff_eq] at h2
    obtain ⟨⟨⟨h3, h4⟩, h5⟩, h6⟩ := h2
    refine ⟨x, (hm x).2 (.inr ?_), by simp [Kn.bare, h4, h5, h6]⟩
    unfold okOf
    exact List.mem_map.2 ⟨(x, e), List.mem_filter.2 ⟨h1, by simp [h3]⟩, rfl⟩
  · rintro ⟨x, h1, h2⟩
    rcases (hm x).1 h1 with h | h
    · simp at h
    · unfold okOf at h
      obtain ⟨⟨x', e⟩, h3, h4⟩ := List.mem_map.1 h
      obtain ⟨h5, h6⟩ := List.mem_filter.1 h3
      simp only at h4
      subst h4
      refine ⟨(x', e), h5, ?_⟩
      simp only [Kn.bare, Prod.mk.injEq] at h2
      simp only [beq_iff_eq] at h6
      simp [h6, h2.1, h2.2.1, h2.2.2]

def AtOwn (ks : List Kn) (w : World) (e : Ending) (w' : World) : Prop := ∃ ao c, e = .returned (.slice ao ks.length c) ∧ w'.ownsRow w.heap.size 56 49 (.slice ao ks.length c) ks.length (flat ks) ∧ Ext w w'
theorem at_doneO {ks l : List Kn} {w wr : World} {v : Value} {k : Nat} (hl : l = ks.take k) (hk : k ≤ ks.length) (hown : wr.ownsRow w.heap.size 56 49 v k (flat (ks.take k))) (hx : Ext w wr) : AtOwn l w (.returned v) wr := by
  subst hl
  have e : (ks.take k).length = k := by simp; omega
  have hown' : wr.ownsRow w.heap.size 56 49 v (ks.take k).length (flat (ks.take k)) := by rw [e]; exact hown
  obtain ⟨ao, c, rfl, h⟩ := KSl.of_owns hown'
  exact ⟨ao, c, rfl, hown', hx⟩
theorem KSl.of_own {w : World} {base c : Nat} {ao : Option Addr} {ks : List Kn} (h : w.ownsRow base 56 49 (.slice ao ks.length c) ks.length (flat ks)) : KSl w ao ks := by
  obtain ⟨a, c', he, hk⟩ := KSl.of_owns h
  cases he
  exact hk
theorem own56_ty {w w' : World} {base : Nat} {v : Value} {n : Nat} {xs : List Value} (h : w.ownsRow base 56 49 v n xs) (ht : TyKept w w') : w'.ownsRow base 56 49 v n xs := by
  refine ⟨h.1, ?_⟩
  rcases h.2 with hn | ⟨g, cap, cur, rfl, hbg, hg, r⟩
  · exact .inl hn
  · exact .inr ⟨g, cap, cur, rfl, hbg, (ht g _ _ _ hg (by decide) (by decide)).trans hg, r⟩
theorem bool_eq {x y : Bool} (h : x = y) : Value.bool x = Value.bool y := by rw [h]

theorem wpList_append_src {w : World} {ops : Array Oper} {rest : List Oper} {o : Oper} {a : Act} {Q : Exit → Act → World → Prop} (hgd : o.guard = none) (s x : Operand)
    (ho : o.op = .call { callee := .builtin .append, args := #[s, x], argTypes := #[22, 22] })
    (base b2 : Nat) (v : Value) (n : Nat) (xs : List Value) (hs : a.eval s = v) (hown : w.ownsRow base 56 49 v n xs)
    (u : Value) (ks : List Kn) (hx : a.eval x = u) (hsrc : w.ownsRow b2 56 49 u ks.length (flat ks))
    (h63 : n + ks.length ≤ 1000) (hbase : base ≤ w.heap.size)
    (h : ∀ v' w', w'.ownsRow base 56 49 v' (n + ks.length) (xs ++ flat ks) → w.grownBy w' v.ownBlock → wpList Try.prog ops Q rest (a.put o.dst v') w') : wpList Try.prog ops Q (o :: rest) a w := by
  obtain ⟨i0, z0, hi, hz0, hzs, hszz, hby⟩ := zero56
  rcases hsrc.2 with ⟨rfl, h0⟩ | ⟨g, cap, cur, rfl, hbg, hg, r⟩
  · have hk : ks = [] := List.length_eq_zero_iff.1 h0
    subst hk
    have hr := run_append_owned_none (P := Try.prog) w base 22 o.type 56 i0 49 Try.underlying22 hi v n xs hown
    refine wpList_plain hgd fun K hK => ?_
    unfold Oper.wp execOp
    simp only [ho, resolve, invoke, builtin, Sem.run_bind, Sem.run_pure, Result.andThen_ok, List.map_toArray, List.map_cons, List.map_nil, hs, hx, hr]
    refine hK _ _ (h v w ?_ ⟨rfl, rfl, rfl, Nat.le_refl _, fun _ _ _ => rfl⟩)
    simpa [flat] using hown
  · exact wpList_append_own w hgd s x 22 ho base 56 i0 z0 49 696 Try.underlying22 hi hz0 hszz hby hzs (by decide) v n xs hs hown ⟨g, 0, none⟩ ks.length cap (flat ks) hx (flat_len ks) (hsrc.cells (g := g) rfl) (flat_oneCell ks) (by unfold maxLen; omega) (by omega) hbase (fun v' w' h1 h2 _ => h v' w' h1 h2)

set_option maxRecDepth 100000 in
set_option maxHeartbeats 1000000 in
theorem at_co (hb : Nat) (ks : List Kn) (known : Int) (w : World) (hh : HistR w hb ks) (hm : ks.length ≤ 100000) :
    Calls Try.prog 10 #[.pointer (some ⟨hb, 0, none⟩), .int .i64 known] w (AtOwn (atK ks known) w) := by
  obtain ⟨ao, cap, mv, h1, h2⟩ := hh
  have H2 := Lib.hid h2
  have c0 : w.cell? ⟨hb, 0, none⟩ = some (.slice ao ks.length cap) := by rw [cell_of_row w hb 0 _ _ _ h1]; rfl
  clear h1 h2
  obtain ⟨i0, z0, hi, hz0, hzs, hsz, hby⟩ := zero56
  have HI := Lib.hid hi
  have HZ := Lib.hid hz0
  have HZS := Lib.hid hzs
  have HSZ := Lib.hid hsz
  have HBY := Lib.hid hby
  clear hi hz0 hzs hsz hby
  go_enter Try.func10, Try.ntmps10
  go_wp2_with fail
  go_loopw [5, 16] (fun v i wr => ∃ k : Nat, k ≤ ks.length ∧ i = .int .i64 k ∧ Hid (atK ks known = ks.take k ++ atK (ks.drop k) known) ∧ Hid (wr.ownsRow w.heap.size 56 49 v k (flat (ks.take k))) ∧ Hid (Ext w wr)) (fun _ i _ => ks.length - (intOf i).toNat)
  case atStart => exact ⟨0, Nat.zero_le _, rfl, rfl, World.ownsRow_nil _ _ _ _, Ext.refl _⟩
  case round =>
    obtain ⟨k, hk, rfl, hs, hown, hx⟩ := hrel
    by_cases hlt : k < ks.length
    · obtain ⟨x, hxk⟩ : ∃ x, ks[k]? = some x := ⟨_, List.getElem?_eq_getElem hlt⟩
      obtain ⟨g, p, rfl, hc, ha⟩ := H2.out k x hxk
      have f0 : wr.cell? ⟨g, k, none⟩ = some (.pointer (some ⟨p, 0, none⟩)) := by rw [hx.out.cell (block_lt_of_cell hc)]; exact hc
      have f1 := (ha.ext hx.out).has
      have f2 := (ha.ext hx.out).eq
      have f3 := (ha.ext hx.out).cell.1
      have HXK := Lib.hid hxk
      clear hc ha hxk
      by_cases hd : x.d ≤ known
      · have hs' := Lib.hid (atK_step HXK.out hd hs.out)
        go_wp2_with (at_builtin; refine wpList_append_own _ rfl _ _ 22 rfl w.heap.size 56 i0 z0 49 696 Try.underlying22 HI.out HZ.out HSZ.out HBY.out HZS.out (by decide) _ k (flat (ks.take k)) rfl (hown.out.alloc _) ⟨wr.heap.size, 0, none⟩ 1 1 x.cl rfl ?c1 ?c2 ?c3 ?c4 ?c5 ?c6 ?_)
        case c1 => rw [x.len]
        case c2 => exact fun j u hu => by rw [Addr.add_mid]; exact KAt.new wr x 56 j u hu
        case c3 => exact x.one'
        case c4 => unfold maxLen; omega
        case c5 => omega
        case c6 => have := hx.out.size; simp; omega
        intro v' w1 ho1 hg1 _
        have hn := own_step HXK.out hown.out hx.out ho1 hg1
        have hn1 := Lib.hid hn.1
        have hn2 := Lib.hid hn.2
        clear ho1 hg1 hn
        go_wp2_with fail
        go_roundw
        case rel => exact ⟨k + 1, by omega, by go_num, hs'.out, hn1.out, hn2.out⟩
        case measure => simp [intOf]; omega
      · have hs' := Lib.hid (atK_stop HXK.out (by omega) hs.out)
        go_wp2_with fail
        go_ret
        exact at_doneO hs'.out hk hown.out hx.out
    · have hs' := Lib.hid (atK_end (by omega) hs.out)
      go_wp2_with fail
      go_ret
      exact at_doneO hs'.out hk hown.out hx.out
end Go.Proofs.Ytfemjcbhgfhbjaa
