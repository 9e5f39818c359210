/-
  Order of a history; Order, Equal and Same of the reference.
-/
import Derived.Test.YtfemjcbhgfhbjaaOrder
namespace Go.Proofs.Ytfemjcbhgfhbjaa
open Go.RowKit

set_option maxHeartbeats 400000 in
theorem horder_c (a b : Kn) (l : Option Addr) (w : World) :
    Calls Try.prog 11 #[.pointer l, .agg a.cs, .agg b.cs] w fun e w' => e = .returned (.int .i64 (cmpL a.pl b.pl)) ∧ Ext w w' := by
  go_enter Try.func11, Try.ntmps11
  go_wp2_with (go_at_call 19; refine (order_c a b none _).mono ?_; rintro e w' ⟨rfl, hx⟩)
  go_ret
  exact ⟨rfl, ((Ext.new w _).alloc _).trans hx⟩

theorem cmpI_zero {x y : Int} : cmpI x y = 0 ↔ x = y := by
  unfold cmpI
  split
  · omega
  · split <;> omega
theorem cmpL_pl (a b : Kn) : cmpL a.pl b.pl = if a.d = b.d then if a.o = b.o then if a.n = b.n then cmpI a.i b.i else cmpI a.n b.n else cmpI a.o b.o else cmpI a.d b.d := by
  have h4 : (if cmpI a.i b.i = 0 then (0 : Int) else cmpI a.i b.i) = cmpI a.i b.i := by split <;> simp_all
  simp only [cmpI_zero] at h4
  simp only [Kn.pl, cmpL, cmpI_zero, h4]

set_option maxHeartbeats 400000 in
theorem rorder_c (a b : Kn) (w : World) :
    Calls Try.prog 20 #[.agg a.cs, .agg b.cs] w fun e w' => e = .returned (.int .i64 (cmpL a.pl b.pl)) ∧ Ext w w' := by
  have hx : Ext w ((w.alloc (Obj.cells a.cs 56)).alloc (Obj.cells b.cs 56)) := (Ext.new _ _).alloc _
  have hl := Lib.hid (cmpL_pl a b)
  have hX := Lib.hid hx
  clear hx
  by_cases h1 : a.d = b.d
  · have g1 : (a.d != b.d) = false := by simp [h1]
    have H1 := Lib.hid h1
    clear h1
    by_cases h2 : a.o = b.o
    · have g2 : (a.o != b.o) = false := by simp [h2]
      have H2 := Lib.hid h2
      clear h2
      by_cases h3 : a.n = b.n
      · have g3 : (a.n != b.n) = false := by simp [h3]
        have H3 := Lib.hid h3
        clear h3
        go_enter Try.func20, Try.ntmps20
        go_wp2_with (go_at_call 27; refine (sign_c _ _ _).mono ?_; rintro e w' ⟨rfl, rfl⟩)
        go_ret
        exact ⟨ret_int (by rw [hl.out, if_pos H1.out, if_pos H2.out, if_pos H3.out]), hX.out⟩
      · have g3 : (a.n != b.n) = true := by simp [h3]
        have H3 := Lib.hid h3
        clear h3
        go_enter Try.func20, Try.ntmps20
        go_wp2_with (go_at_call 27; refine (sign_c _ _ _).mono ?_; rintro e w' ⟨rfl, rfl⟩)
        go_ret
        exact ⟨ret_int (by rw [hl.out, if_pos H1.out, if_pos H2.out, if_neg H3.out]), hX.out⟩
    · have g2 : (a.o != b.o) = true := by simp [h2]
      have H2 := Lib.hid h2
      clear h2
      go_enter Try.func20, Try.ntmps20
      go_wp2_with (go_at_call 27; refine (sign_c _ _ _).mono ?_; rintro e w' ⟨rfl, rfl⟩)
      go_ret
      exact ⟨ret_int (by rw [hl.out, if_pos H1.out, if_neg H2.out]), hX.out⟩
  · have g1 : (a.d != b.d) = true := by simp [h1]
    have H1 := Lib.hid h1
    clear h1
    go_enter Try.func20, Try.ntmps20
    go_wp2_with (go_at_call 27; refine (sign_c _ _ _).mono ?_; rintro e w' ⟨rfl, rfl⟩)
    go_ret
    exact ⟨ret_int (by rw [hl.out, if_neg H1.out]), hX.out⟩
/-- What Equal of the reference tells. -/
def Kn.eqv (a b : Kn) : Bool := (cmpL a.pl b.pl == 0) && (a.kd == b.kd) && (decide (a.id.toList = b.id.toList)) && (a.ad == b.ad)

theorem eqv_1 {a b : Kn} (h1 : (cmpL a.pl b.pl == 0) = true) (h2 : a.kd = b.kd) (h3 : a.id.toList = b.id.toList) : (a.ad == b.ad) = a.eqv b := by
  simp [Kn.eqv, h1, h2, h3]
theorem eqv_2 {a b : Kn} (h2 : ¬ a.kd = b.kd) : false = a.eqv b := by
  simp [Kn.eqv, h2]
theorem eqv_3 {a b : Kn} (h3 : ¬ a.id.toList = b.id.toList) : false = a.eqv b := by
  simp [Kn.eqv, h3]
theorem ret_bool {a b : Bool} (h : a = b) : Ending.returned (.bool a) = .returned (.bool b) := by rw [h]

set_option maxHeartbeats 1000000 in
theorem equal_c (a b : Kn) (w : World) :
    Calls Try.prog 12 #[.agg a.cs, .agg b.cs] w fun e w' => e = .returned (.bool (a.eqv b)) ∧ Ext w w' := by
  have hx : Ext w ((w.alloc (Obj.cells a.cs 56)).alloc (Obj.cells b.cs 56)) := (Ext.new _ _).alloc _
  have hX := Lib.hid hx
  clear hx
  cases h1 : (cmpL a.pl b.pl == 0) with
  | false =>
    have hr := Lib.hid (show a.eqv b = false by simp only [Kn.eqv, h1, Bool.false_and])
    go_enter Try.func12, Try.ntmps12
    go_wp2_with (go_at_call 20; refine (rorder_c a b _).mono ?_; rintro e w' ⟨rfl, hy⟩)
    go_ret
    exact ⟨by rw [hr.out]; rfl, hX.out.trans hy⟩
  | true =>
    go_enter Try.func12, Try.ntmps12
    go_wp2_with (go_at_call 20; refine (rorder_c a b _).mono ?_; rintro e w' ⟨rfl, hy⟩; obtain ⟨ew, rfl⟩ := hy.more; clear hy)
    all_goals
      go_ret
      refine ⟨ret_bool ?_, hX.out.trans (more_ext _ _)⟩
      first
        | exact eqv_1 h1 (by assumption) (by assumption)
        | exact eqv_2 (by assumption)
        | exact eqv_3 (by assumption)
end Go.Proofs.Ytfemjcbhgfhbjaa
