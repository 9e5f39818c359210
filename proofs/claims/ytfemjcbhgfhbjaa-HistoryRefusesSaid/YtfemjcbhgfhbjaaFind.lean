/-
  valid; the search for the place of an act.
-/
import Derived.Test.YtfemjcbhgfhbjaaSince
namespace Go.Proofs.Ytfemjcbhgfhbjaa
open Go.RowKit

def validB (d o n i : Int) : Bool := decide (0 ≤ d) && decide (d ≤ 1000000) && decide (0 ≤ o) && decide (o < 8) && decide (1 ≤ n) && decide (n ≤ 1000) && decide (0 ≤ i) && decide (i < 4000)
theorem validB_false {d o n i : Int} (h : d < 0 ∨ 1000000 < d ∨ o < 0 ∨ 8 ≤ o ∨ n < 1 ∨ 1000 < n ∨ i < 0 ∨ 4000 ≤ i) : false = validB d o n i := by
  symm
  rw [← Bool.not_eq_true]
  simp only [validB, Bool.and_eq_true, decide_eq_true_eq]
  omega
theorem validB_true {d o n i : Int} (h1 : 0 ≤ d) (h2 : d ≤ 1000000) (h3 : 0 ≤ o) (h4 : o < 8) (h5 : 1 ≤ n) (h6 : n ≤ 1000) (h7 : 0 ≤ i) : decide (i < 4000) = validB d o n i := by
  simp [validB, h1, h2, h3, h4, h5, h6, h7]

set_option maxRecDepth 100000 in
set_option maxHeartbeats 2000000 in
theorem valid_c (d o n i : Int) (w : World) :
    Calls Try.prog 22 #[.agg #[.int .i64 d, .int .i64 o, .int .i64 n, .int .i64 i]] w fun e w' => e = .returned (.bool (validB d o n i)) ∧ Ext w w' := by
  have hx := Lib.hid (Ext.new w (.cells #[.int .i64 d, .int .i64 o, .int .i64 n, .int .i64 i] 79))
  go_enter Try.func22, Try.ntmps22
  go_wp2
  all_goals (go_ret; refine ⟨ret_bool ?_, hx.out⟩)
  all_goals first
    | exact validB_true (by omega) (by omega) (by omega) (by omega) (by omega) (by omega) (by omega)
    | exact validB_false (by omega)
set_option maxRecDepth 100000 in
set_option maxHeartbeats 1000000 in
theorem clos_c (p q : Nat) (l : Option Addr) (a b : Kn) (w : World) (ha : KAt w p 0 a) (hq : w.cell? ⟨q, 0, none⟩ = some (.func (.func 19) #[.pointer l] #[])) :
    Calls Try.prog 24 #[.pointer (some ⟨p, 0, none⟩), .agg b.cs, .pointer (some ⟨q, 0, none⟩)] w fun e w' => e = .returned (.int .i64 (cmpL a.pl b.pl)) ∧ Ext w w' := by
  have f1 := ha.has
  have f2 := ha.eq
  have f3 := block_lt_of_cell hq
  have f4 := ha.lt
  have hq' : (w.alloc (.cells b.cs 56)).cell? ⟨q, 0, none⟩ = some (.func (.func 19) #[.pointer l] #[]) := by rw [World.cell?_alloc_lt _ _ _ f3]; exact hq
  have hx := Lib.hid (Ext.new w (.cells b.cs 56))
  have k1 := (ha.alloc (.cells b.cs 56)).has
  have k2 := (ha.alloc (.cells b.cs 56)).eq
  have k3 := (KAt.new w b 56).has
  have k4 := (KAt.new w b 56).eq
  clear ha hq
  go_enter Try.func24, Try.ntmps24
  go_wp2_with fail
  refine wp_region_more (by kernel_rfl) (by kernel_rfl) ?_
  repeat (go_big_quiet_step ((go_at_call 19; exact quiet_ext (order_c a b l _))))
  refine wpQuiet_nil ?_
  rintro _ ⟨nq, rfl⟩
  go_wp2_with fail
  go_ret
  exact ⟨rfl, hx.out.trans (more_ext _ _)⟩

def foundK (ks : List Kn) (t : Kn) (m : Nat) : Bool := match ks[m]? with | some x => cmpL x.pl t.pl == 0 | none => false
theorem foundK_some {ks : List Kn} {t x : Kn} {m : Nat} (h : ks[m]? = some x) : foundK ks t m = (cmpL x.pl t.pl == 0) := by simp [foundK, h]
theorem foundK_none {ks : List Kn} {t : Kn} {m : Nat} (h : ¬ m < ks.length) : foundK ks t m = false := by simp [foundK, List.getElem?_eq_none (Nat.le_of_not_lt h)]

set_option maxRecDepth 100000 in
set_option maxHeartbeats 1000000 in
theorem search_c (ao : Option Addr) (cap q m : Nat) (l : Option Addr) (ks : List Kn) (t : Kn) (w : World) (hm : ks.length ≤ 100000) (hp : PSl w ao ks) (hq : w.cell? ⟨q, 0, none⟩ = some (.func (.func 19) #[.pointer l] #[]))
    (hml : m ≤ ks.length) (hs : ∀ h x, ks[h]? = some x → (cmpL x.pl t.pl < 0 ↔ h < m)) :
    Calls Try.prog 23 #[.slice ao ks.length cap, .agg t.cs, .func (.func 24) #[] #[.pointer (some ⟨q, 0, none⟩)]] w fun e w' => e = .returned (.tuple #[.int .i64 m, .bool (foundK ks t m)]) ∧ Ext w w' := by
  have HP := Lib.hid hp
  have HS := Lib.hid hs
  have HQ := Lib.hid hq
  have hx0 : Ext w (w.alloc (.cells t.cs 56)) := Ext.new _ _
  have HX0 := Lib.hid hx0
  clear hp hs hq hx0
  go_enter Try.func23, Try.ntmps23
  go_wp2_with fail
  go_loopw [9, 10] (fun i j wr => ∃ a b : Nat, a ≤ m ∧ m ≤ b ∧ b ≤ ks.length ∧ i = .int .i64 a ∧ j = .int .i64 b ∧ Hid (Ext (w.alloc (.cells t.cs 56)) wr)) (fun i j _ => (intOf j).toNat - (intOf i).toNat)
  case atStart => exact ⟨0, ks.length, Nat.zero_le _, hml, Nat.le_refl _, rfl, rfl, Ext.refl _⟩
  case round =>
    obtain ⟨a, b, ha, hb, hbl, rfl, rfl, hx⟩ := hrel
    have hk := (KAt.new w t 56).ext hx.out
    have k1 := hk.has
    have k2 := hk.eq
    have hqc : wr.cell? ⟨q, 0, none⟩ = some (.func (.func 19) #[.pointer l] #[]) := by
      have h0 := block_lt_of_cell HQ.out
      rw [hx.out.cell (by simp; simp only at h0; omega), World.cell?_alloc_lt _ _ _ h0]; exact HQ.out
    clear hk
    by_cases hlt : a < b
    · have hmid : (a + b) / 2 < ks.length := by omega
      obtain ⟨x, hxk⟩ : ∃ x, ks[(a + b) / 2]? = some x := ⟨_, List.getElem?_eq_getElem hmid⟩
      obtain ⟨g, p, rfl, hc, hpa⟩ := HP.out _ x hxk
      have hiff := HS.out _ x hxk
      have hpx : KAt wr p 0 x := (hpa.ext HX0.out).ext hx.out
      have hcc : wr.cell? ⟨g, (a + b) / 2, none⟩ = some (.pointer (some ⟨p, 0, none⟩)) := by
        have h0 := block_lt_of_cell hc
        rw [hx.out.cell (by simp; simp only at h0; omega), World.cell?_alloc_lt _ _ _ h0]; exact hc
      have HPX := Lib.hid hpx
      have HIFF := Lib.hid hiff
      clear hxk hc hpa hpx hiff
      have i1 : (0 : Int) ≤ ((a : Int) + (b : Int)) / 2 := by omega
      have i2 : ((a : Int) + (b : Int)) / 2 < (ks.length : Int) := by omega
      by_cases hneg : cmpL x.pl t.pl < 0
      · have hm1 : (a + b) / 2 < m := HIFF.out.1 hneg
        go_wp2_with fail
        refine wp_region_more (by kernel_rfl) (by kernel_rfl) ?_
        repeat (go_big_quiet_step ((go_at_call 24; exact quiet_ext (clos_c p q l x t _ (HPX.out.more _) (cell_in_more hqc _)))))
        refine wpQuiet_nil ?_
        rintro _ ⟨nq, rfl⟩
        go_wp2_with fail
        go_roundw
        case rel => exact ⟨(a + b) / 2 + 1, b, by omega, by omega, by omega, by go_num, rfl, hx.out.trans (more_ext _ _)⟩
        case measure => simp [intOf]; omega
      · have hm1 : ¬ (a + b) / 2 < m := fun h => hneg (HIFF.out.2 h)
        go_wp2_with fail
        refine wp_region_more (by kernel_rfl) (by kernel_rfl) ?_
        repeat (go_big_quiet_step ((go_at_call 24; exact quiet_ext (clos_c p q l x t _ (HPX.out.more _) (cell_in_more hqc _)))))
        refine wpQuiet_nil ?_
        rintro _ ⟨nq, rfl⟩
        go_wp2_with fail
        go_roundw
        case rel => exact ⟨a, (a + b) / 2, by omega, by omega, by omega, rfl, by go_num, hx.out.trans (more_ext _ _)⟩
        case measure => simp [intOf]; omega
    · have hab : a = m := by omega
      have hbb : b = m := by omega
      subst hab
      subst hbb
      by_cases hl2 : b < ks.length
      · obtain ⟨x, hxk⟩ : ∃ x, ks[b]? = some x := ⟨_, List.getElem?_eq_getElem hl2⟩
        obtain ⟨g, p, rfl, hc, hpa⟩ := HP.out _ x hxk
        have hpx : KAt wr p 0 x := (hpa.ext HX0.out).ext hx.out
        have hcc : wr.cell? ⟨g, b, none⟩ = some (.pointer (some ⟨p, 0, none⟩)) := by
          have h0 := block_lt_of_cell hc
          rw [hx.out.cell (by simp; simp only at h0; omega), World.cell?_alloc_lt _ _ _ h0]; exact hc
        have HPX := Lib.hid hpx
        have i1 : (0 : Int) ≤ (b : Int) := by omega
        have i2 : (b : Int) < (ks.length : Int) := by omega
        have i3 : decide ((b : Int) < (ks.length : Int)) = true := by simp; omega
        have i4 : decide (b < ks.length) = true := by simp; omega
        have HFK := Lib.hid (foundK_some (t := t) hxk)
        clear hxk hc hpa hpx
        go_wp2_with fail
        refine wp_region_more (by kernel_rfl) (by kernel_rfl) ?_
        repeat (go_big_quiet_step ((go_at_call 24; exact quiet_ext (clos_c p q l x t _ (HPX.out.more _) (cell_in_more hqc _)))))
        refine wpQuiet_nil ?_
        rintro _ ⟨nq, rfl⟩
        go_wp2_with fail
        go_ret2
        exact ⟨by rw [HFK.out]; rfl, HX0.out.trans (hx.out.trans (more_ext _ _))⟩
      · have HFK := Lib.hid (foundK_none (t := t) hl2)
        have i3 : decide ((b : Int) < (ks.length : Int)) = false := by simp; omega
        have i4 : decide (b < ks.length) = false := by simp; omega
        go_wp2_with fail
        refine wp_region_more (by kernel_rfl) (by kernel_rfl) ?_
        repeat (go_big_quiet_step (fail))
        refine wpQuiet_nil ?_
        rintro _ ⟨nq, rfl⟩
        go_wp2_with fail
        go_ret2
        exact ⟨by rw [HFK.out]; rfl, HX0.out.trans (hx.out.trans (more_ext _ _))⟩
end Go.Proofs.Ytfemjcbhgfhbjaa
